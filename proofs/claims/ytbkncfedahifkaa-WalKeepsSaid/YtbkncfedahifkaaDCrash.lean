/-
  Package disk: Crash.
-/
import Derived.Test.YtbkncfedahifkaaDConcat
set_option linter.unusedVariables false
set_option linter.unusedSimpArgs false
namespace Go.Proofs.Ytbkncfedahifkaa
open Go.RowKit Go.Maps

def resCrash (keep : Nat) (torn : Int) (at_ : Nat) (k : Nat) (s l : List UInt8) : List UInt8 :=
  if (k : Int) = torn then l.take at_ ++ s.drop at_ else if keep / 2 ^ (k % 64) % 2 = 1 then l else s

set_option maxRecDepth 100000 in
theorem crash_fn_else (k : Nat) (s l : Value) (pt pa pk : Nat) (keep : Nat) (torn : Int) (w : World) (hk : k < 4096) (ht : w.cell? ⟨pt, 0, none⟩ = some (.int .i64 torn)) (hkp : w.cell? ⟨pk, 0, none⟩ = some (.int .u64 (keep : Int)))
    (hne : (k : Int) ≠ torn) (hkb : keep < 18446744073709551616) :
    Calls Try.prog 84 #[.int .i64 (k : Int), s, l, .pointer (some ⟨pt, 0, none⟩), .pointer (some ⟨pa, 0, none⟩), .pointer (some ⟨pk, 0, none⟩)] w fun e w' => e = .returned (if keep / 2 ^ (k % 64) % 2 = 1 then l else s) ∧ w = w' := by
  have hne' : ((k : Int) == torn) = false := by rw [beq_eq_false_iff_ne]; exact hne
  have hbits : bits BinOp.and IntKind.u64 ((keep : Int) / 2 ^ (k % 64)) 1 = ((keep / 2 ^ (k % 64) % 2 : Nat) : Int) := by
    have e : (keep : Int) / 2 ^ (k % 64) = ((keep / 2 ^ (k % 64) : Nat) : Int) := by rw [Int.natCast_ediv, Int.natCast_pow]; rfl
    have hle : keep / 2 ^ (k % 64) ≤ keep := Nat.div_le_self _ _
    rw [e]
    clear e
    generalize keep / 2 ^ (k % 64) = q at *
    rw [Lib.u64_and1 _ (by omega) (by omega)]
    omega
  by_cases hb : keep / 2 ^ (k % 64) % 2 = 1
  · rw [if_pos hb]
    have h1 : (bits BinOp.and IntKind.u64 ((keep : Int) / 2 ^ (k % 64)) 1 == 1) = true := by rw [hbits, hb]; rfl
    clear hb hbits
    go_enter Try.func84, Try.ntmps84
    go_wp2_with fail
    go_ret
    exact ⟨rfl, rfl⟩
  · rw [if_neg hb]
    have h1 : (bits BinOp.and IntKind.u64 ((keep : Int) / 2 ^ (k % 64)) 1 == 1) = false := by rw [hbits, beq_eq_false_iff_ne]; omega
    clear hb hbits
    go_enter Try.func84, Try.ntmps84
    go_wp2_with fail
    go_ret
    exact ⟨rfl, rfl⟩

/-- x[:m]. -/
theorem cut_to {P : Program} (t e : TypeId) {i : TypeInfo} (ht : P.underlying t = some (.slice e)) (hi : P.info? e = some i) (hsz : i.size = 1) (A : Option Addr) (n c m : Nat) (hm : m ≤ n) (hc : n ≤ c) :
    ∃ A' : Option Addr, (∀ W : World, (Instr.slice t (.slice A n c) none (some (.int .i64 (m : Int))) none).run P W = .ok (.slice A' m c) W) ∧
      (∀ (w : World) (xs : List Value), Rd 1 w A n c xs → Rd 1 w A' m c (xs.take m)) := by
  refine ⟨if c = 0 then A else A.map (·.add 0), fun W => ?_, fun w xs h => ?_⟩
  · have hel : P.elem t = e := by simp [Program.elem, ht]
    have hu : P.underlying t = some (.slice (P.elem t)) := by rw [hel]; exact ht
    rw [run_slice_h W t A n c hu .i64 (m : Int) (by omega) (by omega), hel]
    simp [sizeOf, typeInfo, hi, hsz, sliced, Result.andThen]
  · have h2 := h.take m hm
    rw [Nat.mul_one] at h2
    refine ⟨h2.len, h2.cap, h2.max, fun hn => ?_⟩
    obtain ⟨b, o, rfl, hcell⟩ := h2.cells hn
    rw [if_neg (by omega)]
    exact ⟨b, o, by simp [Addr.add_lit], hcell⟩

set_option maxRecDepth 100000 in
set_option maxHeartbeats 1000000 in
theorem crash_fn_torn (k at_ sz : Nat) (A1 A2 : Option Addr) (c1 c2 : Nat) (l1 l2 : List UInt8) (pt pa pk : Nat) (w : World) (hsz : sz ≤ 4096) (hat : at_ ≤ sz) (ht : w.cell? ⟨pt, 0, none⟩ = some (.int .i64 (k : Int))) (hpa : w.cell? ⟨pa, 0, none⟩ = some (.int .i64 (at_ : Int)))
    (h1 : RdB w A1 sz c1 l1) (h2 : RdB w A2 sz c2 l2) :
    Calls Try.prog 84 #[.int .i64 (k : Int), .slice A1 sz c1, .slice A2 sz c2, .pointer (some ⟨pt, 0, none⟩), .pointer (some ⟨pa, 0, none⟩), .pointer (some ⟨pk, 0, none⟩)] w fun e w' => ∃ v, e = .returned v ∧ OwnB w.heap.size (l2.take at_ ++ l1.drop at_) w' v ∧ Ch [] w w' := by
  have heq : ((k : Int) == (k : Int)) = true := by simp
  obtain ⟨i0, hi0, hsz0⟩ := Option.map_eq_some_iff.1 Try.info5
  simp only [Prod.mk.injEq] at hsz0
  obtain ⟨B2, hcut2, hrd2⟩ := cut_to (P := Try.prog) 28 5 Try.underlying28 hi0 hsz0.2.1 A2 sz c2 at_ hat h2.cap
  obtain ⟨B1, hcut1, hrd1, _⟩ := cut_from (P := Try.prog) 28 5 Try.underlying28 hi0 hsz0.2.1 A1 sz c1 at_ hat
  have q2 : RdB w B2 at_ c2 (l2.take at_) := by have := hrd2 w _ h2; rwa [bvs_take] at this
  have q1 : RdB w B1 (sz - at_) (c1 - at_) (l1.drop at_) := by have := hrd1 w _ h1; rwa [Nat.mul_one, bvs_drop] at this
  have hcut1' := hcut1 .i64
  clear hcut1 hrd1 hrd2 hi0 hsz0 i0
  go_enter Try.func84, Try.ntmps84
  go_wp2_with fail
  refine dr_begin (by kernel_rfl) ?_
  refine dr_more (fun W => W.cell? ⟨pa, 0, none⟩ = some (.int .i64 (at_ : Int))) ?_
  have hT : True ∧ w.drew.cell? ⟨pa, 0, none⟩ = some (.int .i64 (at_ : Int)) := ⟨trivial, hpa⟩
  refine dr_take 0 (some 14) (v := ?_) rfl rfl (by kernel_rfl) (by kernel_rfl) (by kernel_rfl) (fun _ _ _ h => h) rfl hT (fun W _ => ?_) ?_
  rotate_left
  · (go_simp; try with_reducible rfl)
  try simp only [Act.put, List.setIfInBounds_toArray, List.set_cons_zero, List.set_cons_succ]
  refine dr_take 1 (some 15) (v := ?_) rfl rfl (by kernel_rfl) (by kernel_rfl) (by kernel_rfl) (fun _ _ _ h => h) rfl hT (fun W hW => ?_) ?_
  rotate_left
  · (have h1 := hW.2; go_simp; try with_reducible rfl)
  try simp only [Act.put, List.setIfInBounds_toArray, List.set_cons_zero, List.set_cons_succ]
  refine dr_take 2 (some 16) (v := ?_) rfl rfl (by kernel_rfl) (by kernel_rfl) (by kernel_rfl) (fun _ _ _ h => h) rfl hT (fun W _ => ?_) ?_
  rotate_left
  · (go_simp; try with_reducible rfl)
  try simp only [Act.put, List.setIfInBounds_toArray, List.set_cons_zero, List.set_cons_succ]
  refine dr_take 3 (some 17) (v := ?_) rfl rfl (by kernel_rfl) (by kernel_rfl) (by kernel_rfl) (fun _ _ _ h => h) rfl hT (fun W _ => ?_) ?_
  rotate_left
  · (go_simp; try with_reducible rfl)
  try simp only [Act.put, List.setIfInBounds_toArray, List.set_cons_zero, List.set_cons_succ]
  refine dr_take 4 (some 18) (v := ?_) rfl rfl (by kernel_rfl) (by kernel_rfl) (by kernel_rfl) (fun _ _ _ h => h) rfl hT (fun W hW => ?_) ?_
  rotate_left
  · (have h1 := hW.2; go_simp; try with_reducible rfl)
  try simp only [Act.put, List.setIfInBounds_toArray, List.set_cons_zero, List.set_cons_succ]
  refine dr_take 5 (some 19) (v := ?_) rfl rfl (by kernel_rfl) (by kernel_rfl) (by kernel_rfl) (fun _ _ _ h => h) rfl hT (fun W _ => ?_) ?_
  rotate_left
  · (go_simp; try with_reducible rfl)
  try simp only [Act.put, List.setIfInBounds_toArray, List.set_cons_zero, List.set_cons_succ]
  refine dr_step 6 rfl (by kernel_rfl) rfl (fun K hK => ?_)
  go_simp
  have hca : Ch [] w (w.drew.alloc (.cells #[.slice B2 at_ c2, .slice B1 (sz - at_) (c1 - at_)] 28)) := (Ch.refl _ _).drew.alloc _
  have hT : True ∧ (w.drew.alloc (.cells #[.slice B2 at_ c2, .slice B1 (sz - at_) (c1 - at_)] 28)).cell? ⟨pa, 0, none⟩ = some (.int .i64 (at_ : Int)) := ⟨trivial, hca.cell hpa (by simp)⟩
  refine hK.out _ _ hT ?_
  clear hK K
  try simp only [Act.put, List.setIfInBounds_toArray, List.set_cons_zero, List.set_cons_succ]
  refine dr_step 7 rfl (by kernel_rfl) rfl (fun K hK => ?_)
  go_simp
  refine (concat2 w.drew.heap.size 0 2 B2 B1 at_ c2 (sz - at_) (c1 - at_) _ _ _ (cell_at (heap_alloc_new _ _) 0 rfl) (cell_at (heap_alloc_new _ _) 1 rfl) (q2.keep hca (by simp)) (q1.keep hca (by simp)) (by omega) (by omega)).mono ?_
  rintro e v1 ⟨vn, rfl, hv, hcd⟩
  have hcv : Ch [] w v1 := hca.trans hcd (by simp)
  have hv : OwnB w.heap.size (l2.take at_ ++ l1.drop at_) v1 vn := by obtain ⟨A, c, e, ho⟩ := hv; exact ⟨A, c, e, own_rebase ho (by intro k hk; have := own_ge ho k hk; have hs := hca.size; omega)⟩
  have hT : True ∧ v1.cell? ⟨pa, 0, none⟩ = some (.int .i64 (at_ : Int)) := ⟨trivial, hcv.cell hpa (by simp)⟩
  refine hK.out _ _ hT ?_
  clear hK K
  try simp only [Act.put, List.setIfInBounds_toArray, List.set_cons_zero, List.set_cons_succ]
  refine dr_take 8 (some 9) (v := ?_) rfl rfl (by kernel_rfl) (by kernel_rfl) (by kernel_rfl) (fun _ _ _ h => h) rfl hT (fun W _ => ?_) ?_
  rotate_left
  · (go_simp; try with_reducible rfl)
  try simp only [Act.put, List.setIfInBounds_toArray, List.set_cons_zero, List.set_cons_succ]
  refine dr_done (by kernel_rfl) ?_
  go_wp2_with fail
  go_ret
  exact ⟨_, rfl, hv, hcv⟩

end Go.Proofs.Ytbkncfedahifkaa
