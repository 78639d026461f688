/-
  Package disk: Crash, whole.
-/
import Derived.Test.YtbkncfedahifkaaDCrash
set_option linter.unusedVariables false
set_option linter.unusedSimpArgs false
namespace Go.Proofs.Ytbkncfedahifkaa
open Go.RowKit Go.Maps

section
variable {P : Program} {md : Region.Mode} {ops : Array Oper} {Q : Exit → Act → World → Prop} {S : World → Prop} {fuel : Nat} {listed : Array Bool} {a : Act} {w : World}
/-- Two may come up: either. -/
theorem dr_step2 (i j : Nat) {oi oj : Oper} (hi : ops[i]? = some oi) (hj : ops[j]? = some oj) (hr : Region.ready md ops listed = [i, j]) (hwi : Region.wanted oi (yielded ops a.tmps) = true) (hwj : Region.wanted oj (yielded ops a.tmps) = true)
    (h1 : ∀ K : Act → World → Prop, Shut (∀ a' w', S w' → wpAnyH P md ops Q S fuel (listed.setIfInBounds i true) a' w' → K a' w') → oi.wp P a w K Q)
    (h2 : ∀ K : Act → World → Prop, Shut (∀ a' w', S w' → wpAnyH P md ops Q S fuel (listed.setIfInBounds j true) a' w' → K a' w') → oj.wp P a w K Q) : wpAnyH P md ops Q S (fuel + 1) listed a w :=
  wpAnyH_ready hr (by simp) (AllReadyH.cons hi (fun K hK => by rw [if_pos hwi]; exact h1 K (fun a' w' hS hW => hK a' w' hS (fun _ => hW)))
    (AllReadyH.cons hj (fun K hK => by rw [if_pos hwj]; exact h2 K (fun a' w' hS hW => hK a' w' hS (fun _ => hW))) AllReadyH.nil))
end

theorem crash_fn (F : List Nat) (sz q k : Nat) (s l : Value) (l1 l2 : List UInt8) (pt pa pk keep : Nat) (torn : Int) (W : World) (hk : k < 4096) (hF : ∀ x ∈ F, x < W.heap.size) (hsz : sz ≤ 4096) (hq : q ≤ sz)
    (ht : W.cell? ⟨pt, 0, none⟩ = some (.int .i64 torn)) (hpa : W.cell? ⟨pa, 0, none⟩ = some (.int .i64 (q : Int))) (hkp : W.cell? ⟨pk, 0, none⟩ = some (.int .u64 (keep : Int))) (hkb : keep < 18446744073709551616)
    (hs : SecV W F sz s l1) (hl : SecV W F sz l l2) :
    Calls Try.prog 84 (#[.int .i64 (k : Int), s, l] ++ #[.pointer (some ⟨pt, 0, none⟩), .pointer (some ⟨pa, 0, none⟩), .pointer (some ⟨pk, 0, none⟩)]) W fun e w' => ∃ v, e = .returned v ∧ SecV w' F sz v (resCrash keep torn q k l1 l2) ∧ Ch [] W w' := by
  show Calls Try.prog 84 #[.int .i64 (k : Int), s, l, .pointer (some ⟨pt, 0, none⟩), .pointer (some ⟨pa, 0, none⟩), .pointer (some ⟨pk, 0, none⟩)] W _
  by_cases ht' : (k : Int) = torn
  · subst ht'
    have e1 := hs.length
    have e2 := hl.length
    obtain ⟨A1, c1, rfl, h1, _⟩ := hs
    obtain ⟨A2, c2, rfl, h2, _⟩ := hl
    refine (crash_fn_torn k q sz A1 A2 c1 c2 l1 l2 pt pa pk W hsz hq ht hpa h1 h2).mono ?_
    rintro e w' ⟨v, rfl, hv, hc⟩
    have hlen : (l2.take q ++ l1.drop q).length = sz := by rw [List.length_append, List.length_take, List.length_drop]; omega
    have := own_sec hv hF
    rw [hlen] at this
    exact ⟨v, rfl, by rw [resCrash, if_pos rfl]; exact this, hc⟩
  · refine (crash_fn_else k s l pt pa pk keep torn W hk ht hkp ht' hkb).mono ?_
    rintro e w' ⟨rfl, rfl⟩
    refine ⟨_, rfl, ?_, Ch.refl _ _⟩
    rw [resCrash, if_neg ht']
    split
    · exact hl
    · exact hs

/-- What a crash comes to. -/
def Dsk.crash (d : Dsk) (keep : Nat) (torn : Int) (at_ : Int) : Dsk :=
  { d.settled (resCrash keep torn (min (max at_ 0) d.sz).toNat) with dead := false, cut := -1 }

set_option maxRecDepth 100000 in
set_option maxHeartbeats 2000000 in
theorem crash_any (b g m : Nat) (X : List Nat) (d : Dsk) (keep : Nat) (torn at_ : Int) (w : World) (h : IsDisk w b g m X d) (hX : ∀ x ∈ X, x < w.heap.size) (hkeep : keep < 18446744073709551616) :
    Calls Try.prog 48 #[.pointer (some ⟨b, 0, none⟩), .int .u64 (keep : Int), .int .i64 torn, .int .i64 at_] w fun e w' => e = .returned (.tuple #[]) ∧ IsDisk w' b g m X (d.crash keep torn at_) ∧ Ch [b, g, m] w w' := by
  obtain ⟨cc0, vs0, D0, hd0⟩ := id h
  have hsz1 := hd0.sz1
  have hbl := hd0.blt
  have hgl := hd0.glt
  have hml := hd0.mlt
  clear hd0 D0 vs0 cc0
  go_enter Try.func48, Try.ntmps48
  go_wp2_with fail
  generalize hw3 : ((w.alloc (.cells #[.int .u64 (keep : Int)] 33)).alloc (.cells #[.int .i64 torn] 3)).alloc (.cells #[.int .i64 at_] 3) = w3 at *
  have hc3 : Ch [] w w3 := by rw [← hw3]; exact (((Ch.refl [] w).alloc _).alloc _).alloc _
  have hk3 : w3.cell? ⟨w.heap.size, 0, none⟩ = some (.int .u64 (keep : Int)) := by
    rw [← hw3]
    exact (((Ch.refl [] _).alloc _).alloc _).cell (cell_at (heap_alloc_new w _) 0 rfl) (by simp)
  have ht3 : w3.cell? ⟨w.heap.size + 1, 0, none⟩ = some (.int .i64 torn) := by
    rw [← hw3]
    have := cell_at (heap_alloc_new (w.alloc (.cells #[.int .u64 (keep : Int)] 33)) (.cells #[.int .i64 torn] 3)) 0 rfl
    rw [show (w.alloc (.cells #[.int .u64 (keep : Int)] 33)).heap.size = w.heap.size + 1 from by simp] at this
    exact ((Ch.refl [] _).alloc _).cell this (by simp)
  have hp3 : w3.heap[w.heap.size + 1 + 1]? = some (.cells #[.int .i64 at_] 3 (0, 0)) := by
    rw [← hw3]
    have := heap_alloc_new ((w.alloc (.cells #[.int .u64 (keep : Int)] 33)).alloc (.cells #[.int .i64 torn] 3)) (.cells #[.int .i64 at_] 3)
    simpa using this
  clear hw3
  generalize hAT : min (max at_ 0) (d.sz : Int) = AT at *
  have hAT0 : 0 ≤ AT ∧ AT ≤ d.sz := by omega
  obtain ⟨q, rfl⟩ : ∃ q : Nat, AT = (q : Int) := ⟨AT.toNat, by omega⟩
  have hcr : d.crash keep torn at_ = { d.settled (resCrash keep torn q) with dead := false, cut := -1 } := by
    unfold Dsk.crash
    rw [hAT, Int.toNat_natCast]
  have HCR := Lib.hid hcr
  have HAT := Lib.hid hAT
  clear hcr hAT
  generalize hpk : w.heap.size = pk at *
  have hpt : pk + 1 = pk + 1 := rfl
  generalize hpa : pk + 1 + 1 = pa at *
  have hpl : pk < pa ∧ pk + 1 < pa ∧ pk ≤ pk + 1 := by omega
  clear hpa hpt
  generalize hpt : pk + 1 = pt at *
  clear hpt
  have hl := cell_at hp3 0 rfl
  have hf := free_at hp3 0
  have hD3 : IsDisk w3.drew b g m X d := (h.nil hc3).nil (Ch.refl _ _).drew
  have hld : w3.drew.cell? ⟨pa, 0, none⟩ = some (.int .i64 at_) := hl
  have hfd : w3.drew.frozen? ⟨pa, 0, none⟩ = false := hf
  refine dr_begin (by kernel_rfl) ?_
  have hT : True := trivial
  refine dr_take 1 (some 9) (v := ?_) rfl rfl (by kernel_rfl) (by kernel_rfl) (by kernel_rfl) (fun _ _ _ h => h) rfl hT (fun W _ => ?_) ?_
  rotate_left
  · (go_simp; try with_reducible rfl)
  try simp only [Act.put, List.setIfInBounds_toArray, List.set_cons_zero, List.set_cons_succ]
  refine dr_take 2 (some 10) (v := ?_) rfl rfl (by kernel_rfl) (by kernel_rfl) (by kernel_rfl) (fun _ _ _ h => h) rfl hT (fun W _ => ?_) ?_
  rotate_left
  · (go_simp; try with_reducible rfl)
  try simp only [Act.put, List.setIfInBounds_toArray, List.set_cons_zero, List.set_cons_succ]
  refine dr_take 3 (some 11) (v := ?_) rfl rfl (by kernel_rfl) (by kernel_rfl) (by kernel_rfl) (fun _ _ _ h => h) rfl hT (fun W _ => ?_) ?_
  rotate_left
  · (go_simp; try with_reducible rfl)
  try simp only [Act.put, List.setIfInBounds_toArray, List.set_cons_zero, List.set_cons_succ]
  refine dr_step2 0 4 rfl rfl (by kernel_rfl) rfl rfl (fun K hK => ?_) (fun K hK => ?_)
  · go_simp
    refine hK.out _ _ hT ?_
    clear hK K
    try simp only [Act.put, List.setIfInBounds_toArray, List.set_cons_zero, List.set_cons_succ]
    refine dr_step 4 rfl (by kernel_rfl) rfl (fun K hK => ?_)
    go_simp
    refine (size_any b g m X d _ hD3).mono ?_
    rintro e v4 ⟨rfl, rfl⟩
    refine hK.out _ _ hT ?_
    clear hK K
    try simp only [Act.put, List.setIfInBounds_toArray, List.set_cons_zero, List.set_cons_succ]
    refine dr_step 5 rfl (by kernel_rfl) rfl (fun K hK => ?_)
    go_simp
    refine (within_any at_ 0 (d.sz : Int) _).mono ?_
    rintro e v5 ⟨rfl, rfl⟩
    rw [HAT.out]
    refine hK.out _ _ hT ?_
    clear hK K
    try simp only [Act.put, List.setIfInBounds_toArray, List.set_cons_zero, List.set_cons_succ]
    refine dr_step 6 rfl (by kernel_rfl) rfl (fun K hK => ?_)
    go_simp
    refine hK.out _ _ hT ?_
    clear hK K
    try simp only [Act.put, List.setIfInBounds_toArray, List.set_cons_zero, List.set_cons_succ]
    refine dr_done (by kernel_rfl) ?_
    have hc5 : Ch [] w (w3.setCell ⟨pa, 0, none⟩ (.int .i64 (q : Int))).drew := (hc3.setCell _ _ (.inr (by rw [hpk]; exact Nat.le_of_lt hpl.1))).drew
    have hD5 : IsDisk (w3.setCell ⟨pa, 0, none⟩ (.int .i64 (q : Int))).drew b g m X d := h.nil hc5
    have hp5 : (w3.setCell ⟨pa, 0, none⟩ (.int .i64 (q : Int))).drew.cell? ⟨pa, 0, none⟩ = some (.int .i64 (q : Int)) := by
      have := heap_setCell_same w3 pa 0 _ 3 (.int .i64 (q : Int)) hp3
      exact cell_at this 0 rfl
    have ht5 : (w3.setCell ⟨pa, 0, none⟩ (.int .i64 (q : Int))).drew.cell? ⟨pt, 0, none⟩ = some (.int .i64 torn) := ((Ch.refl [pa] w3).setCell ⟨pa, 0, none⟩ (.int .i64 (q : Int)) (by simp)).drew.cell ht3 (by simp; omega)
    have hk5 : (w3.setCell ⟨pa, 0, none⟩ (.int .i64 (q : Int))).drew.cell? ⟨pk, 0, none⟩ = some (.int .u64 (keep : Int)) := ((Ch.refl [pa] w3).setCell ⟨pa, 0, none⟩ (.int .i64 (q : Int)) (by simp)).drew.cell hk3 (by simp; omega)
    have hs5 : w.heap.size ≤ (w3.setCell ⟨pa, 0, none⟩ (.int .i64 (q : Int))).drew.heap.size := hc5.size
    generalize hW5 : (w3.setCell ⟨pa, 0, none⟩ (.int .i64 (q : Int))).drew = W5 at *
    clear hW5 hl hf hp3 ht3 hk3
    have hS := settle_any b g m X d 84 #[.pointer (some ⟨pt, 0, none⟩), .pointer (some ⟨pa, 0, none⟩), .pointer (some ⟨pk, 0, none⟩)] (resCrash keep torn q) W5 hD5 (fun args W => (enters_of Try.func84 (by kernel_rfl) rfl) args W)
      (fun k s l l1 l2 W hk hW hs hl => crash_fn (b :: g :: m :: X) d.sz q k s l l1 l2 pt pa pk keep torn W hk
        (by have := hW.size; intro x hx; simp only [List.mem_cons] at hx; rcases hx with e | e | e | e; omega; omega; omega; have := hX x e; omega)
        hsz1 (by omega) (hW.cell ht5 (by simp; omega)) (hW.cell hp5 (by simp; omega)) (hW.cell hk5 (by simp; omega)) hkeep hs hl)
    go_wp2_with fail
    refine hS.mono ?_
    rintro e w6 ⟨rfl, ⟨cc, vs, D, h6⟩, hc6⟩
    have f3 := free_at h6.cells 3
    have f2 := free_at h6.cells 2
    have g3 := cell_at h6.cells 3 rfl
    have g2 := cell_at h6.cells 2 rfl
    have h7 := (h6.setDead false).setCut (-1) (by omega) (by omega)
    clear h6 hS
    go_wp2_with fail
    go_end0
    have hc7 := (((hc5.mono (G := [b, g, m]) (by simp)).trans hc6 (by simp)).setCell ⟨b, 3, none⟩ (.bool false) (by simp)).setCell ⟨b, 2, none⟩ (.int .i64 (-1)) (by simp)
    exact ⟨rfl, ⟨cc, vs, D, by rw [HCR.out]; exact h7⟩, hc7⟩
  · go_simp
    refine (size_any b g m X d _ hD3).mono ?_
    rintro e v4 ⟨rfl, rfl⟩
    refine hK.out _ _ hT ?_
    clear hK K
    try simp only [Act.put, List.setIfInBounds_toArray, List.set_cons_zero, List.set_cons_succ]
    refine dr_step 0 rfl (by kernel_rfl) rfl (fun K hK => ?_)
    go_simp
    refine hK.out _ _ hT ?_
    clear hK K
    try simp only [Act.put, List.setIfInBounds_toArray, List.set_cons_zero, List.set_cons_succ]
    refine dr_step 5 rfl (by kernel_rfl) rfl (fun K hK => ?_)
    go_simp
    refine (within_any at_ 0 (d.sz : Int) _).mono ?_
    rintro e v5 ⟨rfl, rfl⟩
    rw [HAT.out]
    refine hK.out _ _ hT ?_
    clear hK K
    try simp only [Act.put, List.setIfInBounds_toArray, List.set_cons_zero, List.set_cons_succ]
    refine dr_step 6 rfl (by kernel_rfl) rfl (fun K hK => ?_)
    go_simp
    refine hK.out _ _ hT ?_
    clear hK K
    try simp only [Act.put, List.setIfInBounds_toArray, List.set_cons_zero, List.set_cons_succ]
    refine dr_done (by kernel_rfl) ?_
    have hc5 : Ch [] w (w3.setCell ⟨pa, 0, none⟩ (.int .i64 (q : Int))).drew := (hc3.setCell _ _ (.inr (by rw [hpk]; exact Nat.le_of_lt hpl.1))).drew
    have hD5 : IsDisk (w3.setCell ⟨pa, 0, none⟩ (.int .i64 (q : Int))).drew b g m X d := h.nil hc5
    have hp5 : (w3.setCell ⟨pa, 0, none⟩ (.int .i64 (q : Int))).drew.cell? ⟨pa, 0, none⟩ = some (.int .i64 (q : Int)) := by
      have := heap_setCell_same w3 pa 0 _ 3 (.int .i64 (q : Int)) hp3
      exact cell_at this 0 rfl
    have ht5 : (w3.setCell ⟨pa, 0, none⟩ (.int .i64 (q : Int))).drew.cell? ⟨pt, 0, none⟩ = some (.int .i64 torn) := ((Ch.refl [pa] w3).setCell ⟨pa, 0, none⟩ (.int .i64 (q : Int)) (by simp)).drew.cell ht3 (by simp; omega)
    have hk5 : (w3.setCell ⟨pa, 0, none⟩ (.int .i64 (q : Int))).drew.cell? ⟨pk, 0, none⟩ = some (.int .u64 (keep : Int)) := ((Ch.refl [pa] w3).setCell ⟨pa, 0, none⟩ (.int .i64 (q : Int)) (by simp)).drew.cell hk3 (by simp; omega)
    have hs5 : w.heap.size ≤ (w3.setCell ⟨pa, 0, none⟩ (.int .i64 (q : Int))).drew.heap.size := hc5.size
    generalize hW5 : (w3.setCell ⟨pa, 0, none⟩ (.int .i64 (q : Int))).drew = W5 at *
    clear hW5 hl hf hp3 ht3 hk3
    have hS := settle_any b g m X d 84 #[.pointer (some ⟨pt, 0, none⟩), .pointer (some ⟨pa, 0, none⟩), .pointer (some ⟨pk, 0, none⟩)] (resCrash keep torn q) W5 hD5 (fun args W => (enters_of Try.func84 (by kernel_rfl) rfl) args W)
      (fun k s l l1 l2 W hk hW hs hl => crash_fn (b :: g :: m :: X) d.sz q k s l l1 l2 pt pa pk keep torn W hk
        (by have := hW.size; intro x hx; simp only [List.mem_cons] at hx; rcases hx with e | e | e | e; omega; omega; omega; have := hX x e; omega)
        hsz1 (by omega) (hW.cell ht5 (by simp; omega)) (hW.cell hp5 (by simp; omega)) (hW.cell hk5 (by simp; omega)) hkeep hs hl)
    go_wp2_with fail
    refine hS.mono ?_
    rintro e w6 ⟨rfl, ⟨cc, vs, D, h6⟩, hc6⟩
    have f3 := free_at h6.cells 3
    have f2 := free_at h6.cells 2
    have g3 := cell_at h6.cells 3 rfl
    have g2 := cell_at h6.cells 2 rfl
    have h7 := (h6.setDead false).setCut (-1) (by omega) (by omega)
    clear h6 hS
    go_wp2_with fail
    go_end0
    have hc7 := (((hc5.mono (G := [b, g, m]) (by simp)).trans hc6 (by simp)).setCell ⟨b, 3, none⟩ (.bool false) (by simp)).setCell ⟨b, 2, none⟩ (.int .i64 (-1)) (by simp)
    exact ⟨rfl, ⟨cc, vs, D, by rw [HCR.out]; exact h7⟩, hc7⟩

end Go.Proofs.Ytbkncfedahifkaa
