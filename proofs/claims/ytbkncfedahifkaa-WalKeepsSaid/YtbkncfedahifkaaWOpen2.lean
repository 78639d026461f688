/-
  Package wal: Open.
-/
import Derived.Test.YtbkncfedahifkaaWBegin2
set_option linter.unusedVariables false
set_option linter.unusedSimpArgs false
namespace Go.Proofs.Ytbkncfedahifkaa
open Go.RowKit Go.Maps

/-- The next frame of a log. -/
def stepO (R : Nat → List UInt8) (n sz turn a nx : Nat) : Option (List (List UInt8) × Nat) := match openF R n sz (turn % 2) a nx with
  | some (t, rs, bh) => if t = turn then some (rs, bh) else none
  | none => none
/-- All its frames from there on. -/
def openAll (R : Nat → List UInt8) (n sz turn : Nat) : Nat → Nat → Nat → List (List UInt8) × Nat × Nat
  | 0, a, nx => ([], a, nx)
  | f + 1, a, nx => match stepO R n sz turn a nx with
    | none => ([], a, nx)
    | some (rs, bh) => (rs ++ (openAll R n sz turn f bh (nx + 1)).1, (openAll R n sz turn f bh (nx + 1)).2)
theorem recsP_len : ∀ (f : Nat) (l : List UInt8) (rs : List (List UInt8)), recsP f l = some rs → 4 * rs.length ≤ l.length
  | 0, l, rs, h => by cases h
  | f + 1, l, rs, h => by
    unfold recsP at h
    split at h
    · injection h with h; subst h; simp
    · split at h
      · cases h
      · split at h
        · obtain ⟨q, h1, h2⟩ := Option.map_eq_some_iff.1 h
          have h3 := recsP_len f _ q h1
          subst h2
          rw [List.length_drop] at h3
          simp only [List.length_cons]
          omega
        · cases h
theorem secsN_ge (S k : Nat) (hS : 0 < S) (hk : 0 < k) : 1 ≤ secsN S k ∧ k ≤ secsN S k * S := by
  unfold secsN
  have hd := Nat.div_add_mod k S
  rw [Nat.mul_comm] at hd
  have hmod := Nat.mod_lt k hS
  generalize k / S = q at *
  generalize k % S = r at *
  rcases Nat.eq_zero_or_pos r with hz | hz
  · subst hz
    simp only [Nat.zero_min, Nat.add_zero] at hd ⊢
    refine ⟨?_, by omega⟩
    rcases Nat.eq_zero_or_pos q with hq | hq
    · subst hq; omega
    · exact hq
  · rw [show min r 1 = 1 from by omega, Nat.add_mul, Nat.one_mul]
    exact ⟨by omega, by omega⟩
theorem openF_some {R : Nat → List UInt8} {n sz side a nx t bh : Nat} {rs : List (List UInt8)} (h : openF R n sz side a nx = some (t, rs, bh)) (hn : n ≤ 4096) (hs : 128 ≤ sz) (hs2 : sz ≤ 4096) : a < bh ∧ bh ≤ n / 2 ∧ rs.length ≤ (bh - a) * 4096 := by
  unfold openF at h
  simp only at h
  split at h
  · rename_i hc
    obtain ⟨q, h1, e⟩ := Option.map_eq_some_iff.1 h
    simp only [Prod.mk.injEq] at e
    obtain ⟨_, rfl, rfl⟩ := e
    generalize deN ((((R (side * (n / 2) + a)).take (sz - 16)).drop 24).take 8) = m at *
    have h2 := recsP_len _ _ _ h1
    rw [List.length_take] at h2
    have h3 := secsN_le (sz - 16) (32 + m) (n / 2 - a) (by omega) (by omega)
    have hS : 0 < sz - 16 := by omega
    have h4 := secsN_ge (sz - 16) (32 + m) hS (by omega)
    have h5 : secsN (sz - 16) (32 + m) * (sz - 16) ≤ secsN (sz - 16) (32 + m) * 4096 := Nat.mul_le_mul_left _ (by omega)
    refine ⟨by omega, by omega, ?_⟩
    rw [show a + secsN (sz - 16) (32 + m) - a = secsN (sz - 16) (32 + m) from by omega]
    omega
  · cases h
theorem stepO_some {R : Nat → List UInt8} {n sz turn a nx bh : Nat} {rs : List (List UInt8)} (h : stepO R n sz turn a nx = some (rs, bh)) (hn : n ≤ 4096) (hs : 128 ≤ sz) (hs2 : sz ≤ 4096) : a < bh ∧ bh ≤ n / 2 ∧ rs.length ≤ (bh - a) * 4096 := by
  unfold stepO at h
  split at h
  · rename_i t q b ho
    split at h
    · simp only [Option.some.injEq, Prod.mk.injEq] at h
      obtain ⟨rfl, rfl⟩ := h
      exact openF_some ho hn hs hs2
    · cases h
  · cases h

section
variable {lb um b g m n sz turn next at_ count : Nat} {X : List Nat} {R : Nat → List UInt8}
set_option maxRecDepth 100000 in
set_option maxHeartbeats 2000000 in
theorem openC_any (lv rp bp : Nat) (v0 z0 : Value) (w : World) (h : LogS w lb um b g m X n sz R turn next at_ count) (hnx : next < 9223372036854775808) (hlv : w.heap[lv]? = some (.cells #[.pointer (some ⟨lb, 0, none⟩)] 88 (0, 0)))
    (hrp : w.heap[rp]? = some (.cells #[v0] 64 (0, 0))) (hbp : w.heap[bp]? = some (.cells #[z0] 3 (0, 0))) :
    Calls Try.prog 89 #[.pointer (some ⟨lv, 0, none⟩), .pointer (some ⟨rp, 0, none⟩), .pointer (some ⟨bp, 0, none⟩)] w fun e w' => Ch [rp, bp] w w' ∧
      ((e = .returned (.tuple #[]) ∧ ∃ rs bh v, stepO R n sz turn at_ next = some (rs, bh) ∧ w'.heap[rp]? = some (.cells #[v] 64 (0, 0)) ∧ w'.heap[bp]? = some (.cells #[.int .i64 (bh : Int)] 3 (0, 0)) ∧ RowsO w' w.heap.size v rs) ∨ (e = .panicked stopW ∧ stepO R n sz turn at_ next = none)) := by
  have hb := h.bds
  have hop := open_any (turn % 2) at_ next w.drew (h.nil (Ch.refl _ _).drew) (by omega) hnx (by have := h.atB; omega)
  rw [show ((turn % 2 : Nat) : Int) = (turn : Int) % 2 from by omega] at hop
  have clv := cell_at hlv 0 rfl
  have cl1 := cell_at h.cells 1 rfl
  have cl2 := cell_at h.cells 2 rfl
  have cl3 := cell_at h.cells 3 rfl
  have htB := h.turnB
  have hrb : rp ≠ bp := by
    rintro rfl
    rw [hrp] at hbp
    simp only [Option.some.injEq, Obj.cells.injEq] at hbp
    exact absurd hbp.2.1 (by decide)
  have hlr : lv ≠ rp := by
    rintro rfl
    rw [hlv] at hrp
    simp only [Option.some.injEq, Obj.cells.injEq] at hrp
    exact absurd hrp.2.1 (by decide)
  have hlbp : lv ≠ bp := by
    rintro rfl
    rw [hlv] at hbp
    simp only [Option.some.injEq, Obj.cells.injEq] at hbp
    exact absurd hbp.2.1 (by decide)
  have htm : IntKind.i64.wrap ((turn : Int).tmod 2) = (turn : Int) % 2 := by
    rw [Int.tmod_eq_emod_of_nonneg (by omega), IntKind.wrap_i64]
    omega
  have HTM := Lib.hid htm
  have HOP := Lib.hid hop
  clear hop htm
  go_enter Try.func89, Try.ntmps89
  go_wp2_with fail
  refine dr_begin (by kernel_rfl) ?_
  refine dr_more (fun W => W.cell? ⟨lv, 0, none⟩ = some (.pointer (some ⟨lb, 0, none⟩)) ∧ W.cell? ⟨lb, 1, none⟩ = some (.int .u64 (turn : Int)) ∧ W.cell? ⟨lb, 3, none⟩ = some (.int .i64 (at_ : Int)) ∧ W.cell? ⟨lb, 2, none⟩ = some (.int .u64 (next : Int))) ?_
  have hT : True ∧ (w.drew.cell? ⟨lv, 0, none⟩ = some (.pointer (some ⟨lb, 0, none⟩)) ∧ w.drew.cell? ⟨lb, 1, none⟩ = some (.int .u64 (turn : Int)) ∧ w.drew.cell? ⟨lb, 3, none⟩ = some (.int .i64 (at_ : Int)) ∧ w.drew.cell? ⟨lb, 2, none⟩ = some (.int .u64 (next : Int))) := ⟨trivial, clv, cl1, cl3, cl2⟩
  refine dr_take 0 (some 7) (v := ?_) rfl rfl (by kernel_rfl) (by kernel_rfl) (by kernel_rfl) (fun _ _ _ h => h) rfl hT (fun W hW => ?_) ?_
  rotate_left
  · (obtain ⟨-, h1, h2, h3, h4⟩ := hW; go_simp; try with_reducible rfl)
  try simp only [Act.put, List.setIfInBounds_toArray, List.set_cons_zero, List.set_cons_succ]
  refine dr_take 1 (some 8) (v := ?_) rfl rfl (by kernel_rfl) (by kernel_rfl) (by kernel_rfl) (fun _ _ _ h => h) rfl hT (fun W hW => ?_) ?_
  rotate_left
  · (obtain ⟨-, h1, h2, h3, h4⟩ := hW; go_simp; try with_reducible rfl)
  try simp only [Act.put, List.setIfInBounds_toArray, List.set_cons_zero, List.set_cons_succ]
  refine dr_take 2 (some 9) (v := ?_) rfl rfl (by kernel_rfl) (by kernel_rfl) (by kernel_rfl) (fun _ _ _ h => h) rfl hT (fun W _ => ?_) ?_
  rotate_left
  · (go_simp; try with_reducible rfl)
  try simp only [Act.put, List.setIfInBounds_toArray, List.set_cons_zero, List.set_cons_succ]
  refine dr_take 3 (some 10) (v := ?_) rfl rfl (by kernel_rfl) (by kernel_rfl) (by kernel_rfl) (fun _ _ _ h => h) rfl hT (fun W _ => ?_) ?_
  rotate_left
  · (go_simp; try with_reducible rfl)
  try simp only [Act.put, List.setIfInBounds_toArray, List.set_cons_zero, List.set_cons_succ]
  refine dr_take 4 (some 11) (v := ?_) rfl rfl (by kernel_rfl) (by kernel_rfl) (by kernel_rfl) (fun _ _ _ h => h) rfl hT (fun W hW => ?_) ?_
  rotate_left
  · (obtain ⟨-, h1, h2, h3, h4⟩ := hW; go_simp; try with_reducible rfl)
  try simp only [Act.put, List.setIfInBounds_toArray, List.set_cons_zero, List.set_cons_succ]
  refine dr_take 5 (some 12) (v := ?_) rfl rfl (by kernel_rfl) (by kernel_rfl) (by kernel_rfl) (fun _ _ _ h => h) rfl hT (fun W _ => ?_) ?_
  rotate_left
  · (go_simp; try with_reducible rfl)
  try simp only [Act.put, List.setIfInBounds_toArray, List.set_cons_zero, List.set_cons_succ]
  refine dr_take 6 (some 13) (v := ?_) rfl rfl (by kernel_rfl) (by kernel_rfl) (by kernel_rfl) (fun _ _ _ h => h) rfl hT (fun W _ => ?_) ?_
  rotate_left
  · (go_simp; try with_reducible rfl)
  try simp only [Act.put, List.setIfInBounds_toArray, List.set_cons_zero, List.set_cons_succ]
  refine dr_take 7 (some 14) (v := ?_) rfl rfl (by kernel_rfl) (by kernel_rfl) (by kernel_rfl) (fun _ _ _ h => h) rfl hT (fun W hW => ?_) ?_
  rotate_left
  · (obtain ⟨-, h1, h2, h3, h4⟩ := hW; go_simp; try with_reducible rfl)
  try simp only [Act.put, List.setIfInBounds_toArray, List.set_cons_zero, List.set_cons_succ]
  refine dr_take 8 (some 15) (v := ?_) rfl rfl (by kernel_rfl) (by kernel_rfl) (by kernel_rfl) (fun _ _ _ h => h) rfl hT (fun W _ => ?_) ?_
  rotate_left
  · (go_simp; try with_reducible rfl)
  try simp only [Act.put, List.setIfInBounds_toArray, List.set_cons_zero, List.set_cons_succ]
  refine dr_take 9 (some 16) (v := ?_) rfl rfl (by kernel_rfl) (by kernel_rfl) (by kernel_rfl) (fun _ _ _ h => h) rfl hT (fun W _ => ?_) ?_
  rotate_left
  · (go_simp; try with_reducible rfl)
  try simp only [Act.put, List.setIfInBounds_toArray, List.set_cons_zero, List.set_cons_succ]
  refine dr_take 10 (some 17) (v := ?_) rfl rfl (by kernel_rfl) (by kernel_rfl) (by kernel_rfl) (fun _ _ _ h => h) rfl hT (fun W hW => ?_) ?_
  rotate_left
  · (obtain ⟨-, h1, h2, h3, h4⟩ := hW; go_simp; try with_reducible rfl)
  try simp only [Act.put, List.setIfInBounds_toArray, List.set_cons_zero, List.set_cons_succ]
  refine dr_take 11 (some 18) (v := ?_) rfl rfl (by kernel_rfl) (by kernel_rfl) (by kernel_rfl) (fun _ _ _ h => h) rfl hT (fun W hW => ?_) ?_
  rotate_left
  · (obtain ⟨-, h1, h2, h3, h4⟩ := hW; go_simp; try with_reducible rfl)
  try simp only [Act.put, List.setIfInBounds_toArray, List.set_cons_zero, List.set_cons_succ]
  refine dr_take 12 (some 19) (v := ?_) rfl rfl (by kernel_rfl) (by kernel_rfl) (by kernel_rfl) (fun _ _ _ h => h) rfl hT (fun W _ => ?_) ?_
  rotate_left
  · (go_simp; try with_reducible rfl)
  try simp only [Act.put, List.setIfInBounds_toArray, List.set_cons_zero, List.set_cons_succ]
  refine dr_take 13 (some 20) (v := ?_) rfl rfl (by kernel_rfl) (by kernel_rfl) (by kernel_rfl) (fun _ _ _ h => h) rfl hT (fun W _ => ?_) ?_
  rotate_left
  · (go_simp; try with_reducible rfl)
  try simp only [Act.put, List.setIfInBounds_toArray, List.set_cons_zero, List.set_cons_succ]
  refine dr_take 14 (some 21) (v := ?_) rfl rfl (by kernel_rfl) (by kernel_rfl) (by kernel_rfl) (fun _ _ _ h => h) rfl hT (fun W hW => ?_) ?_
  rotate_left
  · (obtain ⟨-, h1, h2, h3, h4⟩ := hW; go_simp; try with_reducible rfl)
  try simp only [Act.put, List.setIfInBounds_toArray, List.set_cons_zero, List.set_cons_succ]
  refine dr_step 15 rfl (by kernel_rfl) rfl (fun K hK => ?_)
  go_simp
  rw [HTM.out]
  refine HOP.out.mono ?_
  rintro e w1 ⟨hc1, he⟩
  have hcw1 : Ch [] w w1 := (Ch.refl _ _).drew.trans hc1 (by simp)
  cases ho : openF R n sz (turn % 2) at_ next with
  | none =>
    rw [ho] at he
    subst he
    have hk : stepO R n sz turn at_ next = none := by unfold stepO; rw [ho]
    exact ⟨rfl, hcw1.mono (by simp), .inr ⟨rfl, hk⟩⟩
  | some q =>
    obtain ⟨t, rs, bh⟩ := q
    rw [ho] at he
    obtain ⟨v, rfl, hrows⟩ := he
    obtain ⟨vs, hvs1, _⟩ := id hrows
    obtain ⟨Av, cv, rfl⟩ := own_slice hvs1
    have htb := openF_lt ho
    have hT : True ∧ (w1.cell? ⟨lv, 0, none⟩ = some (.pointer (some ⟨lb, 0, none⟩)) ∧ w1.cell? ⟨lb, 1, none⟩ = some (.int .u64 (turn : Int)) ∧ w1.cell? ⟨lb, 3, none⟩ = some (.int .i64 (at_ : Int)) ∧ w1.cell? ⟨lb, 2, none⟩ = some (.int .u64 (next : Int))) := ⟨trivial, hcw1.cell clv (by simp), hcw1.cell cl1 (by simp), hcw1.cell cl3 (by simp), hcw1.cell cl2 (by simp)⟩
    refine hK.out _ _ hT ?_
    clear hK K
    try simp only [Act.put, List.setIfInBounds_toArray, List.set_cons_zero, List.set_cons_succ]
    refine dr_take 16 (some 6) (v := ?_) rfl rfl (by kernel_rfl) (by kernel_rfl) (by kernel_rfl) (fun _ _ _ h => h) rfl hT (fun W _ => ?_) ?_
    rotate_left
    · (go_simp; try with_reducible rfl)
    try simp only [Act.put, List.setIfInBounds_toArray, List.set_cons_zero, List.set_cons_succ]
    refine dr_take 17 (some 23) (v := ?_) rfl rfl (by kernel_rfl) (by kernel_rfl) (by kernel_rfl) (fun _ _ _ h => h) rfl hT (fun W _ => ?_) ?_
    rotate_left
    · (go_simp; try with_reducible rfl)
    try simp only [Act.put, List.setIfInBounds_toArray, List.set_cons_zero, List.set_cons_succ]
    refine dr_take 18 (some 24) (v := ?_) rfl rfl (by kernel_rfl) (by kernel_rfl) (by kernel_rfl) (fun _ _ _ h => h) rfl hT (fun W _ => ?_) ?_
    rotate_left
    · (go_simp; try with_reducible rfl)
    try simp only [Act.put, List.setIfInBounds_toArray, List.set_cons_zero, List.set_cons_succ]
    refine dr_take 19 (some 25) (v := ?_) rfl rfl (by kernel_rfl) (by kernel_rfl) (by kernel_rfl) (fun _ _ _ h => h) rfl hT (fun W _ => ?_) ?_
    rotate_left
    · (go_simp; try with_reducible rfl)
    try simp only [Act.put, List.setIfInBounds_toArray, List.set_cons_zero, List.set_cons_succ]
    refine dr_take 20 (some 3) (v := ?_) rfl rfl (by kernel_rfl) (by kernel_rfl) (by kernel_rfl) (fun _ _ _ h => h) rfl hT (fun W _ => ?_) ?_
    rotate_left
    · (go_simp; try with_reducible rfl)
    try simp only [Act.put, List.setIfInBounds_toArray, List.set_cons_zero, List.set_cons_succ]
    refine dr_take 21 (some 4) (v := ?_) rfl rfl (by kernel_rfl) (by kernel_rfl) (by kernel_rfl) (fun _ _ _ h => h) rfl hT (fun W _ => ?_) ?_
    rotate_left
    · (go_simp; try with_reducible rfl)
    try simp only [Act.put, List.setIfInBounds_toArray, List.set_cons_zero, List.set_cons_succ]
    refine dr_take 22 (some 5) (v := ?_) rfl rfl (by kernel_rfl) (by kernel_rfl) (by kernel_rfl) (fun _ _ _ h => h) rfl hT (fun W _ => ?_) ?_
    rotate_left
    · (go_simp; try with_reducible rfl)
    try simp only [Act.put, List.setIfInBounds_toArray, List.set_cons_zero, List.set_cons_succ]
    refine dr_done (by kernel_rfl) ?_
    by_cases hts : t = turn
    · have hk : stepO R n sz turn at_ next = some (rs, bh) := by unfold stepO; rw [ho]; simp only [if_pos hts]
      have heq : ((t : Int) == (turn : Int)) = true := by rw [beq_iff_eq]; omega
      have heq2 : (t == turn) = true := by rw [beq_iff_eq]; exact hts
      have hrp1 := hcw1.at_ hrp (by simp)
      have hbp1 := hcw1.at_ hbp (by simp)
      have frp := free_at hrp1 0
      have crp := cell_at hrp1 0 rfl
      have hs1 : Ch [rp] w1 (w1.setCell ⟨rp, 0, none⟩ (.slice Av rs.length cv)) := (Ch.refl _ _).setCell _ _ (by simp)
      have hrp2 : (w1.setCell ⟨rp, 0, none⟩ (.slice Av rs.length cv)).heap[rp]? = some (.cells #[.slice Av rs.length cv] 64 (0, 0)) := by
        have := heap_setCell_same w1 rp 0 _ 64 (.slice Av rs.length cv) hrp1
        simpa using this
      have hbp2 := hs1.at_ hbp1 (by simpa using hrb.symm)
      have fbp := free_at hbp2 0
      have cbp := cell_at hbp2 0 rfl
      have hs2 : Ch [bp] (w1.setCell ⟨rp, 0, none⟩ (.slice Av rs.length cv)) ((w1.setCell ⟨rp, 0, none⟩ (.slice Av rs.length cv)).setCell ⟨bp, 0, none⟩ (.int .i64 (bh : Int))) := (Ch.refl _ _).setCell _ _ (by simp)
      have hrp3 := hs2.at_ hrp2 (by simpa using hrb)
      have hbp3 : ((w1.setCell ⟨rp, 0, none⟩ (.slice Av rs.length cv)).setCell ⟨bp, 0, none⟩ (.int .i64 (bh : Int))).heap[bp]? = some (.cells #[.int .i64 (bh : Int)] 3 (0, 0)) := by
        have := heap_setCell_same _ bp 0 _ 3 (.int .i64 (bh : Int)) hbp2
        simpa using this
      have hrpl := lt_of_at hrp
      have hbpl := lt_of_at hbp
      have hrows3 := hrows.keep ((hs1.mono (G := [rp, bp]) (by simp)).trans hs2 (by simp)) (by intro y hy; simp at hy; left; show y < w.heap.size; omega)
      have hcc : Ch [rp, bp] w ((w1.setCell ⟨rp, 0, none⟩ (.slice Av rs.length cv)).setCell ⟨bp, 0, none⟩ (.int .i64 (bh : Int))) := ((hcw1.mono (G := [rp, bp]) (by simp)).setCell _ _ (by simp)).setCell _ _ (by simp)
      have HH := Lib.hid (show _ ∧ _ ∧ _ ∧ _ ∧ _ from ⟨hcc, hk, hrp3, hbp3, hrows3⟩)
      clear hk hcc hrp3 hbp3 hrows3 ho HOP hts
      go_wp2_with fail
      refine (wmust_yes _ _).mono ?_
      rintro e w' ⟨rfl, rfl⟩
      go_wp2_with fail
      go_end0
      exact ⟨HH.out.1, .inl ⟨rfl, rs, bh, _, HH.out.2.1, HH.out.2.2.1, HH.out.2.2.2.1, HH.out.2.2.2.2⟩⟩
    · have hk : stepO R n sz turn at_ next = none := by unfold stepO; rw [ho]; simp only [if_neg hts]
      have heq : ((t : Int) == (turn : Int)) = false := by rw [beq_eq_false_iff_ne]; omega
      have heq2 : (t == turn) = false := by rw [beq_eq_false_iff_ne]; exact hts
      have HH := Lib.hid (show _ ∧ _ from ⟨hcw1.mono (G := [rp, bp]) (by simp), hk⟩)
      clear hk ho HOP hts
      go_wp2_with fail
      refine (wmust_no _).mono ?_
      rintro e w' ⟨rfl, rfl⟩
      exact ⟨rfl, HH.out.1, .inr ⟨rfl, HH.out.2⟩⟩
end

end Go.Proofs.Ytbkncfedahifkaa
