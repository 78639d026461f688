/-
  Package wal: must, sector.
-/
import Derived.Test.YtbkncfedahifkaaWCommit
set_option linter.unusedVariables false
set_option linter.unusedSimpArgs false
namespace Go.Proofs.Ytbkncfedahifkaa
open Go.RowKit Go.Maps

/-- What reading ends with, where a frame isn't whole. -/
def stopW : List PanicEntry := [{ v := .iface 143 (.agg #[.int .i64 0]), recovered := false }]
theorem wmust_yes (z : Int) (w : World) : Calls Try.prog 91 #[.bool true, .int .i64 z] w fun e w' => e = .returned (.tuple #[]) ∧ w = w' := by
  go_enter Try.func91, Try.ntmps91
  go_wp2
  go_end0
  exact ⟨rfl, rfl⟩
theorem wmust_no (w : World) : Calls Try.prog 91 #[.bool false, .int .i64 0] w fun e w' => e = .panicked stopW ∧ w = w' := by
  go_enter Try.func91, Try.ntmps91
  go_wp2
  exact ⟨rfl, rfl, rfl⟩

section
variable {lb um b g m n sz turn next at_ count : Nat} {X : List Nat} {R : Nat → List UInt8}
theorem wsector_no (side a : Nat) (w : World) (h : LogS w lb um b g m X n sz R turn next at_ count) (ha : n / 2 ≤ a) :
    Calls Try.prog 101 #[.pointer (some ⟨lb, 0, none⟩), .int .i64 (side : Int), .int .i64 (a : Int)] w fun e w' => e = .panicked stopW ∧ w = w' := by
  have hh := whalf w h
  have d1 : decide ((a : Int) < ((n / 2 : Nat) : Int)) = false := by simp; omega
  have d2 : decide (a < n / 2) = false := by simp; omega
  generalize n / 2 = H at *
  go_enter Try.func101, Try.ntmps101
  go_wp2_with fail
  refine hh.mono ?_
  rintro e w' ⟨rfl, rfl⟩
  go_wp2_with fail
  refine (wmust_no _).mono ?_
  rintro e w' ⟨rfl, rfl⟩
  exact ⟨rfl, rfl, rfl⟩
set_option maxRecDepth 100000 in
theorem wsector_yes (side a : Nat) (w : World) (h : LogS w lb um b g m X n sz R turn next at_ count) (hs : side < 2) (ha : a < n / 2) :
    Calls Try.prog 101 #[.pointer (some ⟨lb, 0, none⟩), .int .i64 (side : Int), .int .i64 (a : Int)] w fun e w' => ∃ x c, e = .returned (.slice (some ⟨x, 0, none⟩) sz c) ∧ w.heap.size ≤ x ∧ x < w'.heap.size ∧
      w'.ownsRow w.heap.size 5 1 (.slice (some ⟨x, 0, none⟩) sz c) sz (bvs (R (side * (n / 2) + a))) ∧ Ch [] w w' := by
  have hb := h.bds
  have hh := whalf w h
  have hh2 := whalf w.drew (h.nil (Ch.refl _ _).drew)
  have h0 := cell_at h.cells 0 rfl
  have hi : side * (n / 2) + a < n := by
    have : side * (n / 2) ≤ 1 * (n / 2) := Nat.mul_le_mul_right _ (by omega)
    omega
  have hrd := live_read b g m _ n sz R (side * (n / 2) + a) w.drew (h.live.nil (Ch.refl _ _).drew) hi
  have d1 : decide ((a : Int) < ((n / 2 : Nat) : Int)) = true := by simp; omega
  have d2 : decide (a < n / 2) = true := by simp; omega
  have hH : n / 2 ≤ 2048 := by omega
  have hw : wrap64 (wrap64 ((side : Int) * ((n / 2 : Nat) : Int)) + (a : Int)) = ((side * (n / 2) + a : Nat) : Int) := by
    have e1 : (side : Int) * ((n / 2 : Nat) : Int) = ((side * (n / 2) : Nat) : Int) := by rw [Int.natCast_mul]
    have hz : side * (n / 2) ≤ 1 * (n / 2) := Nat.mul_le_mul_right _ (by omega)
    rw [e1]
    generalize side * (n / 2) = z at *
    have e2 : wrap64 (z : Int) = (z : Int) := IntWalk.wrap64_in _ ⟨by omega, by omega⟩
    rw [e2, IntWalk.wrap64_in _ ⟨by omega, by omega⟩]
    omega
  have hw2 : IntKind.i64.wrap (IntKind.i64.wrap ((side : Int) * ((n / 2 : Nat) : Int)) + (a : Int)) = ((side * (n / 2) + a : Nat) : Int) := by
    have e1 : (side : Int) * ((n / 2 : Nat) : Int) = ((side * (n / 2) : Nat) : Int) := by rw [Int.natCast_mul]
    have hz : side * (n / 2) ≤ 1 * (n / 2) := Nat.mul_le_mul_right _ (by omega)
    rw [e1]
    generalize side * (n / 2) = z at *
    rw [IntKind.wrap_i64, IntKind.wrap_i64]
    omega
  generalize hHe : n / 2 = H at *
  generalize hIe : side * H + a = I at *
  have HH := Lib.hid hh2
  have HRD := Lib.hid hrd
  have HW := Lib.hid hw
  have HW2 := Lib.hid hw2
  clear hh2 hrd hw hw2 hHe hIe
  go_enter Try.func101, Try.ntmps101
  go_wp2_with fail
  refine hh.mono ?_
  rintro e w' ⟨rfl, rfl⟩
  go_wp2_with fail
  refine (wmust_yes _ _).mono ?_
  rintro e w' ⟨rfl, rfl⟩
  go_wp2_with fail
  refine dr_begin (by kernel_rfl) ?_
  refine dr_more (fun W => W.cell? ⟨lb, 0, none⟩ = some (.pointer (some ⟨b, 0, none⟩))) ?_
  have hT : True ∧ w.drew.cell? ⟨lb, 0, none⟩ = some (.pointer (some ⟨b, 0, none⟩)) := ⟨trivial, h0⟩
  refine dr_take 0 (some 15) (v := ?_) rfl rfl (by kernel_rfl) (by kernel_rfl) (by kernel_rfl) (fun _ _ _ h => h) rfl hT (fun W _ => ?_) ?_
  rotate_left
  · (go_simp; try with_reducible rfl)
  try simp only [Act.put, List.setIfInBounds_toArray, List.set_cons_zero, List.set_cons_succ]
  refine dr_take 1 (some 16) (v := ?_) rfl rfl (by kernel_rfl) (by kernel_rfl) (by kernel_rfl) (fun _ _ _ h => h) rfl hT (fun W _ => ?_) ?_
  rotate_left
  · (go_simp; try with_reducible rfl)
  try simp only [Act.put, List.setIfInBounds_toArray, List.set_cons_zero, List.set_cons_succ]
  refine dr_take 2 (some 17) (v := ?_) rfl rfl (by kernel_rfl) (by kernel_rfl) (by kernel_rfl) (fun _ _ _ h => h) rfl hT (fun W _ => ?_) ?_
  rotate_left
  · (go_simp; try with_reducible rfl)
  try simp only [Act.put, List.setIfInBounds_toArray, List.set_cons_zero, List.set_cons_succ]
  refine dr_take 3 (some 18) (v := ?_) rfl rfl (by kernel_rfl) (by kernel_rfl) (by kernel_rfl) (fun _ _ _ h => h) rfl hT (fun W hW => ?_) ?_
  rotate_left
  · (have h1 := hW.2; go_simp; try with_reducible rfl)
  try simp only [Act.put, List.setIfInBounds_toArray, List.set_cons_zero, List.set_cons_succ]
  refine dr_take 4 (some 19) (v := ?_) rfl rfl (by kernel_rfl) (by kernel_rfl) (by kernel_rfl) (fun _ _ _ h => h) rfl hT (fun W _ => ?_) ?_
  rotate_left
  · (go_simp; try with_reducible rfl)
  try simp only [Act.put, List.setIfInBounds_toArray, List.set_cons_zero, List.set_cons_succ]
  refine dr_take 5 (some 20) (v := ?_) rfl rfl (by kernel_rfl) (by kernel_rfl) (by kernel_rfl) (fun _ _ _ h => h) rfl hT (fun W _ => ?_) ?_
  rotate_left
  · (go_simp; try with_reducible rfl)
  try simp only [Act.put, List.setIfInBounds_toArray, List.set_cons_zero, List.set_cons_succ]
  refine dr_take 8 (some 23) (v := ?_) rfl rfl (by kernel_rfl) (by kernel_rfl) (by kernel_rfl) (fun _ _ _ h => h) rfl hT (fun W _ => ?_) ?_
  rotate_left
  · (go_simp; try with_reducible rfl)
  try simp only [Act.put, List.setIfInBounds_toArray, List.set_cons_zero, List.set_cons_succ]
  refine dr_step 6 rfl (by kernel_rfl) rfl (fun K hK => ?_)
  go_simp
  refine HH.out.mono ?_
  rintro e v ⟨rfl, rfl⟩
  refine hK.out _ _ hT ?_
  clear hK K
  try simp only [Act.put, List.setIfInBounds_toArray, List.set_cons_zero, List.set_cons_succ]
  refine dr_take 7 (some 22) (v := ?_) rfl rfl (by kernel_rfl) (by kernel_rfl) (by kernel_rfl) (fun _ _ _ h => h) rfl hT (fun W _ => ?_) ?_
  rotate_left
  · (go_simp; try with_reducible rfl)
  try simp only [Act.put, List.setIfInBounds_toArray, List.set_cons_zero, List.set_cons_succ]
  refine dr_take 9 (some 24) (v := ?_) rfl rfl (by kernel_rfl) (by kernel_rfl) (by kernel_rfl) (fun _ _ _ h => h) rfl hT (fun W _ => ?_) ?_
  rotate_left
  · (go_simp; try with_reducible rfl)
  try simp only [Act.put, List.setIfInBounds_toArray, List.set_cons_zero, List.set_cons_succ]
  refine dr_step 10 rfl (by kernel_rfl) rfl (fun K hK => ?_)
  go_simp
  (first | rw [HW.out] | rw [HW2.out])
  refine HRD.out.mono ?_
  rintro e w2 ⟨x, cx, rfl, hx1, hx2, hrow, hc2⟩
  have hT : True ∧ w2.cell? ⟨lb, 0, none⟩ = some (.pointer (some ⟨b, 0, none⟩)) := ⟨trivial, hc2.cell h0 (by simp)⟩
  refine hK.out _ _ hT ?_
  clear hK K
  try simp only [Act.put, List.setIfInBounds_toArray, List.set_cons_zero, List.set_cons_succ]
  refine dr_take 11 (some 14) (v := ?_) rfl rfl (by kernel_rfl) (by kernel_rfl) (by kernel_rfl) (fun _ _ _ h => h) rfl hT (fun W _ => ?_) ?_
  rotate_left
  · (go_simp; try with_reducible rfl)
  try simp only [Act.put, List.setIfInBounds_toArray, List.set_cons_zero, List.set_cons_succ]
  refine dr_take 12 (some 26) (v := ?_) rfl rfl (by kernel_rfl) (by kernel_rfl) (by kernel_rfl) (fun _ _ _ h => h) rfl hT (fun W _ => ?_) ?_
  rotate_left
  · (go_simp; try with_reducible rfl)
  try simp only [Act.put, List.setIfInBounds_toArray, List.set_cons_zero, List.set_cons_succ]
  refine dr_take 13 (some 27) (v := ?_) rfl rfl (by kernel_rfl) (by kernel_rfl) (by kernel_rfl) (fun _ _ _ h => h) rfl hT (fun W _ => ?_) ?_
  rotate_left
  · (go_simp; try with_reducible rfl)
  try simp only [Act.put, List.setIfInBounds_toArray, List.set_cons_zero, List.set_cons_succ]
  refine dr_take 14 (some 7) (v := ?_) rfl rfl (by kernel_rfl) (by kernel_rfl) (by kernel_rfl) (fun _ _ _ h => h) rfl hT (fun W _ => ?_) ?_
  rotate_left
  · (go_simp; try with_reducible rfl)
  try simp only [Act.put, List.setIfInBounds_toArray, List.set_cons_zero, List.set_cons_succ]
  refine dr_take 15 (some 8) (v := ?_) rfl rfl (by kernel_rfl) (by kernel_rfl) (by kernel_rfl) (fun _ _ _ h => h) rfl hT (fun W _ => ?_) ?_
  rotate_left
  · (go_simp; try with_reducible rfl)
  try simp only [Act.put, List.setIfInBounds_toArray, List.set_cons_zero, List.set_cons_succ]
  refine dr_done (by kernel_rfl) ?_
  go_wp2_with fail
  refine (wmust_yes _ _).mono ?_
  rintro e w' ⟨rfl, rfl⟩
  go_wp2_with fail
  go_ret
  exact ⟨x, cx, rfl, hx1, hx2, hrow, (Ch.refl _ _).drew.trans hc2 (by simp)⟩
end

end Go.Proofs.Ytbkncfedahifkaa
