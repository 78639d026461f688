/-
  Package disk: Copy.
-/
import Derived.Test.YtbkncfedahifkaaDNew
import Derived.Maps.RangeWalk
set_option linter.unusedVariables false
set_option linter.unusedSimpArgs false
namespace Go.Proofs.Ytbkncfedahifkaa
open Go.RowKit Go.Maps Go.MapKept Go.ChangeMaps

section
variable {w : World} {b g m : Nat} {X : List Nat} {d : Dsk} {c : Nat} {vs : List Value} {D : DataW Value}
theorem DiskAt.sub (h : DiskAt w b g m X d c vs D) {Y : List Nat} (hY : ∀ x ∈ Y, x ∈ X) : DiskAt w b g m Y d c vs D := by
  have hF : ∀ x ∈ b :: g :: m :: Y, x ∈ b :: g :: m :: X := by
    intro x hx
    simp only [List.mem_cons] at hx ⊢
    rcases hx with e | e | e | e
    · exact .inl e
    · exact .inr (.inl e)
    · exact .inr (.inr (.inl e))
    · exact .inr (.inr (.inr (hY x e)))
  exact { h with
    sureV := fun i hi => by
      obtain ⟨v, q1, q2⟩ := h.sureV i hi
      exact ⟨v, q1, q2.sub hF⟩
    some_ := fun i l hi hl => by
      obtain ⟨q0, v, q1, q2⟩ := h.some_ i l hi hl
      exact ⟨q0, v, q1, q2.sub hF⟩
    bX := fun hx => h.bX (hY _ hx)
    gX := fun hx => h.gX (hY _ hx)
    mX := fun hx => h.mX (hY _ hx) }
theorem IsDisk.sub (h : IsDisk w b g m X d) {Y : List Nat} (hY : ∀ x ∈ Y, x ∈ X) : IsDisk w b g m Y d := by
  obtain ⟨c, vs, D, h⟩ := h
  exact ⟨c, vs, D, h.sub hY⟩
theorem DiskAt.add (h : DiskAt w b g m X d c vs D) {x : Nat} (hx : w.heap.size ≤ x) : DiskAt w b g m (x :: X) d c vs D := by
  have h1 := h.blt
  have h2 := h.glt
  have h3 := h.mlt
  have hz : 0 < d.sz := by have := h.sz0; omega
  have perm : ∀ {v l}, SecV w (b :: g :: m :: X) d.sz v l → SecV w (b :: g :: m :: x :: X) d.sz v l := fun hv =>
    (hv.add hz hx).sub (by intro y hy; simp only [List.mem_cons] at hy ⊢; rcases hy with e | e | e | e | e <;> simp [e])
  exact { h with
    sureV := fun i hi => by
      obtain ⟨v, q1, q2⟩ := h.sureV i hi
      exact ⟨v, q1, perm q2⟩
    some_ := fun i l hi hl => by
      obtain ⟨q0, v, q1, q2⟩ := h.some_ i l hi hl
      exact ⟨q0, v, q1, perm q2⟩
    bX := by simp only [List.mem_cons, not_or]; exact ⟨by omega, h.bX⟩
    gX := by simp only [List.mem_cons, not_or]; exact ⟨by omega, h.gX⟩
    mX := by simp only [List.mem_cons, not_or]; exact ⟨by omega, h.mX⟩ }
theorem DiskAt.vlen (h : DiskAt w b g m X d c vs D) : vs.length = d.sure.length := by have := h.row.1; simpa using this
theorem DiskAt.vone (h : DiskAt w b g m X d c vs D) : ∀ u ∈ vs, u.oneCell' = true := by
  intro u hu
  obtain ⟨i, hi, rfl⟩ := List.mem_iff_getElem.1 hu
  obtain ⟨v, h1, A, ca, rfl, _⟩ := h.sureV i (by rw [← h.vlen]; exact hi)
  rw [List.getElem?_eq_getElem hi] at h1
  injection h1 with h1
  rw [h1]
  rfl

/-- What has been copied so far: all but what is still to come. -/
def Dsk.part (d : Dsk) (left : Lit → Bool) : Dsk := { d with dirty := fun i => if left (ikey i) then none else d.dirty i }
theorem part_none (d : Dsk) (left : Lit → Bool) (h : ∀ z, left z = false) : d.part left = d := by
  unfold Dsk.part
  simp [h]
theorem ikey_same (i j : Nat) : (ikey j).sameKey (ikey i) = decide (j = i) := by
  simp only [ikey, Lit.sameKey, true_and, decide_eq_decide]
  exact ⟨fun h => by omega, fun h => by omega⟩
theorem part_put (d : Dsk) (left : Lit → Bool) (i : Nat) (l : List UInt8) (hl : d.dirty i = some l) : (d.part left).put i l = d.part (fun z => left z && !z.sameKey (ikey i)) := by
  unfold Dsk.part Dsk.put
  simp only [ikey_same, Dsk.mk.injEq, true_and, and_true]
  funext j
  by_cases e : j = i
  · subst e
    simp [hl]
  · simp [e]

/-- Where the copying begins. -/
theorem copy_start {w5 : World} (h : DiskAt w b g m X d c vs D) (bc mc : Nat) (vn : Value) (hX : ∀ x ∈ X, x < w.heap.size) (hc5 : Ch [] w w5) (hbc : w5.heap[bc]? = some (.cells #[vn, .map (some mc), .int .i64 d.cut, .bool d.dead] 69 (0, 0)))
    (hmc : w5.heap[mc]? = some (.map #[] 0)) (hrow : w5.ownsRow w.heap.size 28 1 vn d.sure.length vs) (hb : w.heap.size ≤ bc) (hm : w.heap.size ≤ mc) :
    ∃ g2 c2, w.heap.size ≤ g2 ∧ DiskAt w5 bc g2 mc (w5.heap.size :: b :: g :: m :: X) (d.part (has D)) c2 vs (.map []) ∧ DiskAt w5 b g m (w5.heap.size :: bc :: g2 :: mc :: X) d c vs D := by
  have hb0 := h.blt
  have hg0 := h.glt
  have hm0 := h.mlt
  have hn0 := h.n0
  obtain ⟨A, c2, rfl⟩ := own_slice hrow
  obtain ⟨b', o', rfl, hcell⟩ := (own_rd hrow).cells (by omega)
  obtain rfl : o' = 0 := by
    rcases hrow.2 with ⟨e, _⟩ | ⟨g', cap, cur, e, _⟩
    · cases e
    · simp only [Value.slice.injEq, Option.some.injEq, Addr.mk.injEq] at e
      exact e.1.2.1
  have hbb : w.heap.size ≤ b' := own_ge hrow b' rfl
  have hz : 0 < d.sz := by have := h.sz0; omega
  have hs5 := hc5.size
  have hbcl := lt_of_at hbc
  have hmcl := lt_of_at hmc
  have hgcl := own_lt hrow b' rfl
  have hnz := h.add (x := mc) (by omega) |>.add (x := b') (by omega) |>.add (x := bc) (by omega) |>.add (x := w5.heap.size) (by omega)
  have hO := hnz.keep (hc5.mono (by simp))
  refine ⟨b', c2, hbb, ?_, hO⟩
  have hF : ∀ x ∈ bc :: b' :: mc :: w5.heap.size :: b :: g :: m :: X, x ∈ b :: g :: m :: w5.heap.size :: bc :: b' :: mc :: X := by
    intro x hx
    simp only [List.mem_cons] at hx ⊢
    rcases hx with e | e | e | e | e | e | e | e <;> simp [e]
  constructor
  · exact hbc
  · exact own_rebase hrow (by intro k _; omega)
  · exact ⟨#[], 0, hmc, ⟨by simp, stamped_empty 0, by simp⟩, Nat.zero_le _, rfl⟩
  · intro i hi
    obtain ⟨v, q1, q2⟩ := hO.sureV i hi
    exact ⟨v, q1, q2.sub hF⟩
  · intro k hk
    simp [has_eq] at hk
  · intro i _ _
    simp [has_eq]
  · intro i l hi hl
    simp only [Dsk.part] at hl
    split at hl
    · cases hl
    · rename_i hno
      exact absurd (h.some_ i l hi hl).1 hno
  · exact h.sz0
  · exact h.sz1
  · exact h.n0
  · exact h.n1
  · exact h.cut0
  · exact h.cut1
  · rintro rfl
    rcases hrow.2 with ⟨e, _⟩ | ⟨g', cap, cur, e, _, hh, _⟩
    · cases e
    · simp only [Value.slice.injEq, Option.some.injEq, Addr.mk.injEq] at e
      obtain ⟨⟨rfl, _⟩, _⟩ := e
      rw [hh] at hbc
      simp only [Option.some.injEq, Obj.cells.injEq] at hbc
      exact absurd hbc.2.1 (by decide)
  all_goals
    simp only [List.mem_cons, not_or]
    refine ⟨by omega, by omega, by omega, by omega, fun hx => ?_⟩
    have := hX _ hx
    omega
end

theorem ranges_ch {H : Type} {P : Program} {k : TypeId} {R : Value → Option (DataW H × List MemPlace)} {w w' : World} {b r n : Nat} {D : DataW H} {left : Lit → Bool} {cnt : Nat} {F : List Nat}
    (h : w.ranges P k R b r n D left cnt) (hc : Ch F w w') (hb : b ∉ F) (hr : r ∉ F) : w'.ranges P k R b r n D left cnt := by
  obtain ⟨es, clock, since, seen, c0, hb', Fi, hs, hD, hr', rest⟩ := h
  exact ⟨es, clock, since, seen, c0, hc.at_ hb' hb, Fi, hs, hD, hc.at_ hr' hr, rest⟩

set_option maxRecDepth 100000 in
theorem clone_rows (A : Option Addr) (n c : Nat) (vs : List Value) (w : World) (hr : Rd 1 w A n c vs) (h1 : ∀ u ∈ vs, u.oneCell' = true) (hn : n ≤ 1000000) :
    Calls Try.prog 86 #[.slice A n c] w fun e w' => ∃ v, e = .returned v ∧ w'.ownsRow w.heap.size 28 1 v n vs ∧ Ch [] w w' := by
  have hl : vs.length = n := by have := hr.len; simpa using this
  have hq := fun W => Lib.run_eql_slice_nil (P := Try.prog) W 64 28 A n c 0 0 Try.underlying64
  rcases A with _ | ad
  · have h0 : n = 0 := by
      rcases Nat.eq_zero_or_pos n with h | h
      · exact h
      · obtain ⟨_, _, e, _⟩ := hr.cells h
        cases e
    subst h0
    obtain rfl : vs = [] := List.eq_nil_of_length_eq_zero hl
    go_enter Try.func86, Try.ntmps86
    go_wp2
    go_ret
    exact ⟨_, rfl, World.ownsRow_nil _ _ _ _, Ch.refl _ _⟩
  · have hown : (w.alloc (.cells #[] 28)).ownsRow w.heap.size 28 1 (.slice (some ⟨w.heap.size, 0, none⟩) 0 0) 0 [] := by
      simpa using World.ownsRow_lit (base := w.heap.size) (e := 28) (size := 1) w #[] 0 (Nat.le_refl _) (by simp [maxLen]) rfl
    have hr2 : Rd 1 (w.alloc (.cells #[] 28)) (some ad) n c vs := hr.keep (F := []) ((Ch.refl _ _).alloc _) (by simp)
    go_enter Try.func86, Try.ntmps86
    go_wp2_with (at_builtin; refine app_rd rfl (.tmp 5) (.tmp 6) 64 28 (.slice none 0 0) 1 24 (by decide) rfl Try.underlying64 Try.info28 rfl (.slice (some ⟨w.heap.size, 0, none⟩) 0 0) 0 [] vs (some ad) n c rfl rfl h1 hown hr2 (by simp) (by omega) (by unfold maxLen; omega) ?_; intro v1 w1 h1 hg hat)
    go_ret
    refine ⟨v1, rfl, by simpa using h1, ?_⟩
    exact ((Ch.refl [] w).alloc _).grown hg (by intro k hk; simp only [Value.ownBlock, Option.some.injEq] at hk; right; omega)

set_option maxRecDepth 100000 in
set_option maxHeartbeats 4000000 in
theorem copy_any (b g m : Nat) (X : List Nat) (d : Dsk) (w : World) (h : IsDisk w b g m X d) (hX : ∀ x ∈ X, x < w.heap.size) :
    Calls Try.prog 53 #[.pointer (some ⟨b, 0, none⟩)] w fun e w' => ∃ bc gc mc, e = .returned (.pointer (some ⟨bc, 0, none⟩)) ∧ w.heap.size ≤ bc ∧ w.heap.size ≤ gc ∧ w.heap.size ≤ mc ∧
      IsDisk w' bc gc mc (b :: g :: m :: X) d ∧ IsDisk w' b g m (bc :: gc :: mc :: X) d ∧ Ch [] w w' := by
  obtain ⟨c, vs, D, h⟩ := h
  have hmm := @run_makeMap Try.prog
  have hn1 := h.n1
  have hmw := h.mlt
  have hbw := h.blt
  have hgw := h.glt
  have h0 := cell_at h.cells 0 rfl
  have h2 := cell_at h.cells 2 rfl
  have h3 := cell_at h.cells 3 rfl
  have h1 := cell_at h.cells 1 rfl
  go_enter Try.func53, Try.ntmps53
  go_wp2_with fail
  refine dr_begin (by kernel_rfl) ?_
  refine dr_more (fun W => W.cell? ⟨b, 0, none⟩ = some (.slice (some ⟨g, 0, none⟩) d.sure.length c) ∧ W.cell? ⟨b, 2, none⟩ = some (.int .i64 d.cut) ∧ W.cell? ⟨b, 3, none⟩ = some (.bool d.dead)) ?_
  have hT : True ∧ (w.drew.cell? ⟨b, 0, none⟩ = some (.slice (some ⟨g, 0, none⟩) d.sure.length c) ∧ w.drew.cell? ⟨b, 2, none⟩ = some (.int .i64 d.cut) ∧ w.drew.cell? ⟨b, 3, none⟩ = some (.bool d.dead)) := ⟨trivial, h0, h2, h3⟩
  have mkT : ∀ W, Ch [] w W → True ∧ (W.cell? ⟨b, 0, none⟩ = some (.slice (some ⟨g, 0, none⟩) d.sure.length c) ∧ W.cell? ⟨b, 2, none⟩ = some (.int .i64 d.cut) ∧ W.cell? ⟨b, 3, none⟩ = some (.bool d.dead)) := fun W hW => ⟨trivial, hW.cell h0 (by simp), hW.cell h2 (by simp), hW.cell h3 (by simp)⟩
  have MK := Lib.hid mkT
  clear mkT
  have hcw : Ch [] w w.drew := (Ch.refl _ _).drew
  refine dr_take 0 (some 6) (v := ?_) rfl rfl (by kernel_rfl) (by kernel_rfl) (by kernel_rfl) (fun _ _ _ h => h) rfl hT (fun W _ => ?_) ?_
  rotate_left
  · (go_simp; try with_reducible rfl)
  try simp only [Act.put, List.setIfInBounds_toArray, List.set_cons_zero, List.set_cons_succ]
  refine dr_take 1 (some 7) (v := ?_) rfl rfl (by kernel_rfl) (by kernel_rfl) (by kernel_rfl) (fun _ _ _ h => h) rfl hT (fun W _ => ?_) ?_
  rotate_left
  · (go_simp; try with_reducible rfl)
  try simp only [Act.put, List.setIfInBounds_toArray, List.set_cons_zero, List.set_cons_succ]
  refine dr_take 2 (some 8) (v := ?_) rfl rfl (by kernel_rfl) (by kernel_rfl) (by kernel_rfl) (fun _ _ _ h => h) rfl hT (fun W _ => ?_) ?_
  rotate_left
  · (go_simp; try with_reducible rfl)
  try simp only [Act.put, List.setIfInBounds_toArray, List.set_cons_zero, List.set_cons_succ]
  refine dr_take 3 (some 9) (v := ?_) rfl rfl (by kernel_rfl) (by kernel_rfl) (by kernel_rfl) (fun _ _ _ h => h) rfl hT (fun W _ => ?_) ?_
  rotate_left
  · (go_simp; try with_reducible rfl)
  try simp only [Act.put, List.setIfInBounds_toArray, List.set_cons_zero, List.set_cons_succ]
  refine dr_take 4 (some 10) (v := ?_) rfl rfl (by kernel_rfl) (by kernel_rfl) (by kernel_rfl) (fun _ _ _ h => h) rfl hT (fun W hW => ?_) ?_
  rotate_left
  · (obtain ⟨-, h1, h2, h3⟩ := hW; go_simp; try with_reducible rfl)
  try simp only [Act.put, List.setIfInBounds_toArray, List.set_cons_zero, List.set_cons_succ]
  refine dr_take 8 (some 14) (v := ?_) rfl rfl (by kernel_rfl) (by kernel_rfl) (by kernel_rfl) (fun _ _ _ h => h) rfl hT (fun W _ => ?_) ?_
  rotate_left
  · (go_simp; try with_reducible rfl)
  try simp only [Act.put, List.setIfInBounds_toArray, List.set_cons_zero, List.set_cons_succ]
  refine dr_take 9 (some 15) (v := ?_) rfl rfl (by kernel_rfl) (by kernel_rfl) (by kernel_rfl) (fun _ _ _ h => h) rfl hT (fun W _ => ?_) ?_
  rotate_left
  · (go_simp; try with_reducible rfl)
  try simp only [Act.put, List.setIfInBounds_toArray, List.set_cons_zero, List.set_cons_succ]
  refine dr_take 10 (some 16) (v := ?_) rfl rfl (by kernel_rfl) (by kernel_rfl) (by kernel_rfl) (fun _ _ _ h => h) rfl hT (fun W _ => ?_) ?_
  rotate_left
  · (go_simp; try with_reducible rfl)
  try simp only [Act.put, List.setIfInBounds_toArray, List.set_cons_zero, List.set_cons_succ]
  refine dr_take 11 (some 17) (v := ?_) rfl rfl (by kernel_rfl) (by kernel_rfl) (by kernel_rfl) (fun _ _ _ h => h) rfl hT (fun W hW => ?_) ?_
  rotate_left
  · (obtain ⟨-, h1, h2, h3⟩ := hW; go_simp; try with_reducible rfl)
  try simp only [Act.put, List.setIfInBounds_toArray, List.set_cons_zero, List.set_cons_succ]
  refine dr_take 12 (some 18) (v := ?_) rfl rfl (by kernel_rfl) (by kernel_rfl) (by kernel_rfl) (fun _ _ _ h => h) rfl hT (fun W _ => ?_) ?_
  rotate_left
  · (go_simp; try with_reducible rfl)
  try simp only [Act.put, List.setIfInBounds_toArray, List.set_cons_zero, List.set_cons_succ]
  refine dr_take 13 (some 19) (v := ?_) rfl rfl (by kernel_rfl) (by kernel_rfl) (by kernel_rfl) (fun _ _ _ h => h) rfl hT (fun W _ => ?_) ?_
  rotate_left
  · (go_simp; try with_reducible rfl)
  try simp only [Act.put, List.setIfInBounds_toArray, List.set_cons_zero, List.set_cons_succ]
  refine dr_take 14 (some 20) (v := ?_) rfl rfl (by kernel_rfl) (by kernel_rfl) (by kernel_rfl) (fun _ _ _ h => h) rfl hT (fun W _ => ?_) ?_
  rotate_left
  · (go_simp; try with_reducible rfl)
  try simp only [Act.put, List.setIfInBounds_toArray, List.set_cons_zero, List.set_cons_succ]
  refine dr_take 15 (some 21) (v := ?_) rfl rfl (by kernel_rfl) (by kernel_rfl) (by kernel_rfl) (fun _ _ _ h => h) rfl hT (fun W hW => ?_) ?_
  rotate_left
  · (obtain ⟨-, h1, h2, h3⟩ := hW; go_simp; try with_reducible rfl)
  try simp only [Act.put, List.setIfInBounds_toArray, List.set_cons_zero, List.set_cons_succ]
  refine dr_step2 5 6 rfl rfl (by kernel_rfl) rfl rfl (fun K hK => ?_) (fun K hK => ?_)
  · go_simp
    refine (clone_rows (some ⟨g, 0, none⟩) d.sure.length c vs _ ((own_rd h.row).keep hcw (by simp)) h.vone (by omega)).mono ?_
    rintro e v1 ⟨vn, rfl, hrow, hcd⟩
    obtain ⟨An, cn, rfl⟩ := own_slice hrow
    have hcw := hcw.trans hcd (by simp)
    have hT := MK.out _ hcw
    refine hK.out _ _ hT ?_
    clear hK K
    try simp only [Act.put, List.setIfInBounds_toArray, List.set_cons_zero, List.set_cons_succ]
    refine dr_step 6 rfl (by kernel_rfl) rfl (fun K hK => ?_)
    go_simp
    have hcw := hcw.alloc (.map #[] 0)
    have hT := MK.out _ hcw
    refine hK.out _ _ hT ?_
    clear hK K
    try simp only [Act.put, List.setIfInBounds_toArray, List.set_cons_zero, List.set_cons_succ]
    refine dr_take 7 (some 13) (v := ?_) rfl rfl (by kernel_rfl) (by kernel_rfl) (by kernel_rfl) (fun _ _ _ h => h) rfl hT (fun W _ => ?_) ?_
    rotate_left
    · (go_simp; try with_reducible rfl)
    try simp only [Act.put, List.setIfInBounds_toArray, List.set_cons_zero, List.set_cons_succ]
    refine dr_take 16 (some 22) (v := ?_) rfl rfl (by kernel_rfl) (by kernel_rfl) (by kernel_rfl) (fun _ _ _ h => h) rfl hT (fun W _ => ?_) ?_
    rotate_left
    · (go_simp; try with_reducible rfl)
    try simp only [Act.put, List.setIfInBounds_toArray, List.set_cons_zero, List.set_cons_succ]
    refine dr_step 17 rfl (by kernel_rfl) rfl (fun K hK => ?_)
    go_simp
    have hc5 : Ch [] w ((v1.alloc (.map #[] 0)).alloc (.cells #[.slice An d.sure.length cn, .map (some v1.heap.size), .int .i64 d.cut, .bool d.dead] 69)) := hcw.alloc _
    have hT := MK.out _ hc5
    refine hK.out _ _ hT ?_
    clear hK K
    obtain ⟨g2, c2, hg2, hdC, hdO⟩ := copy_start h (v1.heap.size + 1) v1.heap.size (.slice An d.sure.length cn) hX hc5 (by have := heap_alloc_new (v1.alloc (.map #[] 0)) (.cells #[.slice An d.sure.length cn, .map (some v1.heap.size), .int .i64 d.cut, .bool d.dead] 69); simpa using this) ((Below.heap_alloc (v1.alloc (.map #[] 0)) _ _ (by simp)).trans (heap_alloc_new v1 _)) (own_keep hrow (((Ch.refl [] v1).alloc _).alloc _) (by simp)) (by have := hcd.size; simp at this; omega) (by have := hcd.size; simp at this; omega)
    have hbc5 : w.heap.size ≤ v1.heap.size + 1 := by have := hcd.size; simp at this; omega
    have hmc5 : w.heap.size ≤ v1.heap.size := by have := hcd.size; simp at this; omega
    clear hrow hcd hcw
    generalize hmcx : v1.heap.size = mc at *
    clear hmcx
    generalize hbcx : mc + 1 = bc at *
    clear hbcx
    try simp only [Act.put, List.setIfInBounds_toArray, List.set_cons_zero, List.set_cons_succ]
    refine dr_take 18 (some 3) (v := ?_) rfl rfl (by kernel_rfl) (by kernel_rfl) (by kernel_rfl) (fun _ _ _ h => h) rfl hT (fun W _ => ?_) ?_
    rotate_left
    · (go_simp; try with_reducible rfl)
    try simp only [Act.put, List.setIfInBounds_toArray, List.set_cons_zero, List.set_cons_succ]
    refine dr_done (by kernel_rfl) ?_
    clear hT MK
    generalize hW5 : (v1.alloc (.map #[] 0)).alloc (.cells #[.slice An d.sure.length cn, .map (some mc), .int .i64 d.cut, .bool d.dead] 69) = w5 at *
    clear hW5
    have hbcl := hdC.blt
    have hgcl := hdC.glt
    have hmcl := hdC.mlt
    have hdCc := cell_at hdO.cells 1 rfl
    have hmap := hdO.map
    have hbO := hdO.blt
    have hgO := hdO.glt
    have hmO := hdO.mlt
    go_wp2_with (first | (at_range; refine wpList_range_own (H := Value) _ rfl _ 65 rfl 3 28 ikeyed Try.underlying65 selfR m d.sure.length D rfl hmap ?_; intro w0 hrg0 hg0 hs0) | fail)
    go_frame
    have hc0 : Ch [] w5 w0 := (Ch.refl _ _).grown hg0 (by simp)
    go_loopw [4, 5] (fun _ _ wr => ∃ (left : Lit → Bool) (cnt : Nat) (Dc : DataW Value), wr.ranges Try.prog 3 selfR m w5.heap.size d.sure.length D left cnt ∧ (∀ z, left z = true → has D z = true) ∧ Ch [mc] w5 wr ∧ DiskAt wr bc g2 mc (w5.heap.size :: b :: g :: m :: X) (d.part left) c2 vs Dc ∧ DiskAt wr b g m (w5.heap.size :: bc :: g2 :: mc :: X) d c vs D)
      (fun _ _ wr => wr.rangeLeft m w5.heap.size)
    case atStart => exact ⟨_, _, _, hrg0, fun _ h => h, hc0.mono (by simp), hdC.keep (hc0.mono (by simp)), hdO.keep (hc0.mono (by simp))⟩
    case round =>
      clear hrg0 hg0 hs0 hc0 hdC hdO hdCc hmap
      obtain ⟨left, cnt, Dc, hrg, hleft, hch, hdC, hdO⟩ := hrel
      obtain ⟨wA, hwA⟩ : ∃ W, W = wr := ⟨_, rfl⟩
      subst hwA
      have hsA := hch.size
      have hrl := hrg.lt
      go_wp2_with (first | (at_next; refine wpList_next_ranges _ rfl _ rfl 3 ikeyed selfR (Value.int .i64) (fun (v : Value) => v) (fun key kl hk => by obtain ⟨x, rfl, _⟩ := Maps.keyOf_int_inv Try.underlying3 hk; exact ⟨x, rfl⟩) (fun v y _ => ⟨v, rfl⟩) m w5.heap.size d.sure.length _ _ _ rfl hrg ?_ ?_) | fail)
      · intro _ hl0
        go_wp2_with fail
        go_ret
        rw [part_none d left hl0] at hdC
        exact ⟨bc, g2, mc, rfl, by omega, by omega, by omega, ⟨c2, vs, Dc, hdC.sub (by intro x hx; exact List.mem_cons_of_mem _ hx)⟩, ⟨c, vs, D, hdO.sub (by intro x hx; exact List.mem_cons_of_mem _ hx)⟩, hc5.trans hch (by intro x hx; simp at hx; right; omega)⟩
      · intro x cv kl y yp w1 cnt1 hkey hlk hR hat hrg1 hlt hg1 hs1 hen
        obtain ⟨x', ex, rfl, hwf⟩ := Maps.keyOf_int_inv Try.underlying3 hkey
        cases ex
        simp only [selfR, Option.some.injEq, Prod.mk.injEq] at hR
        obtain ⟨rfl, rfl⟩ := hR
        obtain ⟨i, rfl, hi⟩ := hdO.keys x (hleft _ hlk)
        obtain ⟨lx, hlx⟩ : ∃ lx, d.dirty i = some lx := by
          cases hdi : d.dirty i with
          | some lx => exact ⟨lx, rfl⟩
          | none => have := hdO.none_ i hi hdi; rw [ikey, hleft _ hlk] at this; cases this
        obtain ⟨_, v', hv', hsv⟩ := hdO.some_ i lx hi hlx
        have hvv : v' = cv := by
          have e1 := hv' (.map [])
          have e2 := hat (.map [])
          rw [ikey, e2] at e1
          injection e1 with e1
          exact e1.symm
        subst hvv
        have hlxl := hsv.length
        have hcB : Ch [w5.heap.size] wA w1 := (Ch.refl _ _).grown hg1 (by intro k hk; cases hk; exact .inl (by simp))
        have hdC1 := hdC.keep (hcB.mono (by simp))
        have hdO1 := hdO.keep (hcB.mono (by simp))
        have hsv1 := hsv.keep hcB (by simp)
        obtain ⟨A, ca, rfl, hrd1, _⟩ := hsv1
        have hdCc := cell_at hdC1.cells 1 rfl
        have hsz1 := hdO.sz1
        have Hlx := Lib.hid hlx
        have Hlxl := Lib.hid hlxl
        have Hat := Lib.hid hat
        have Hle := Lib.hid hleft
        clear hlx hlxl hat hv' hsv hkey hleft hwf hlk hdC hdO
        go_wp2_with fail
        have hlxl := Hlxl.out
        refine dr_begin (by kernel_rfl) ?_
        refine dr_more (fun W => W.cell? ⟨bc, 1, none⟩ = some (.map (some mc))) ?_
        have hT : True ∧ w1.drew.cell? ⟨bc, 1, none⟩ = some (.map (some mc)) := ⟨trivial, cell_at hdC1.cells 1 rfl⟩
        refine dr_take 0 (some 35) (v := ?_) rfl rfl (by kernel_rfl) (by kernel_rfl) (by kernel_rfl) (fun _ _ _ h => h) rfl hT (fun W _ => ?_) ?_
        rotate_left
        · (go_simp; try with_reducible rfl)
        try simp only [Act.put, List.setIfInBounds_toArray, List.set_cons_zero, List.set_cons_succ]
        refine dr_take 1 (some 36) (v := ?_) rfl rfl (by kernel_rfl) (by kernel_rfl) (by kernel_rfl) (fun _ _ _ h => h) rfl hT (fun W _ => ?_) ?_
        rotate_left
        · (go_simp; try with_reducible rfl)
        try simp only [Act.put, List.setIfInBounds_toArray, List.set_cons_zero, List.set_cons_succ]
        refine dr_take 2 (some 37) (v := ?_) rfl rfl (by kernel_rfl) (by kernel_rfl) (by kernel_rfl) (fun _ _ _ h => h) rfl hT (fun W _ => ?_) ?_
        rotate_left
        · (go_simp; try with_reducible rfl)
        try simp only [Act.put, List.setIfInBounds_toArray, List.set_cons_zero, List.set_cons_succ]
        refine dr_take 3 (some 38) (v := ?_) rfl rfl (by kernel_rfl) (by kernel_rfl) (by kernel_rfl) (fun _ _ _ h => h) rfl hT (fun W _ => ?_) ?_
        rotate_left
        · (go_simp; try with_reducible rfl)
        try simp only [Act.put, List.setIfInBounds_toArray, List.set_cons_zero, List.set_cons_succ]
        refine dr_take 4 (some 39) (v := ?_) rfl rfl (by kernel_rfl) (by kernel_rfl) (by kernel_rfl) (fun _ _ _ h => h) rfl hT (fun W hW => ?_) ?_
        rotate_left
        · (have h1 := hW.2; go_simp; try with_reducible rfl)
        try simp only [Act.put, List.setIfInBounds_toArray, List.set_cons_zero, List.set_cons_succ]
        refine dr_take 5 (some 40) (v := ?_) rfl rfl (by kernel_rfl) (by kernel_rfl) (by kernel_rfl) (fun _ _ _ h => h) rfl hT (fun W _ => ?_) ?_
        rotate_left
        · (go_simp; try with_reducible rfl)
        try simp only [Act.put, List.setIfInBounds_toArray, List.set_cons_zero, List.set_cons_succ]
        refine dr_take 6 (some 41) (v := ?_) rfl rfl (by kernel_rfl) (by kernel_rfl) (by kernel_rfl) (fun _ _ _ h => h) rfl hT (fun W _ => ?_) ?_
        rotate_left
        · (go_simp; try with_reducible rfl)
        try simp only [Act.put, List.setIfInBounds_toArray, List.set_cons_zero, List.set_cons_succ]
        refine dr_step 7 rfl (by kernel_rfl) rfl (fun K hK => ?_)
        go_simp
        refine (clone_bytes A d.sz ca lx _ (hrd1.keep (F := []) (Ch.refl _ _).drew (by simp)) (by omega)).mono ?_
        rintro e v1 ⟨vq, rfl, hv, hcd⟩
        have hcd : Ch [] w1 v1 := (Ch.refl _ _).drew.trans hcd (by simp)
        have hdC2 := hdC1.keep (hcd.mono (by simp))
        have hT : True ∧ v1.cell? ⟨bc, 1, none⟩ = some (.map (some mc)) := ⟨trivial, cell_at hdC2.cells 1 rfl⟩
        refine hK.out _ _ hT ?_
        clear hK K
        try simp only [Act.put, List.setIfInBounds_toArray, List.set_cons_zero, List.set_cons_succ]
        refine dr_step 8 rfl (by kernel_rfl) rfl (fun K hK => ?_)
        go_simp
        have hsec : SecV v1 (bc :: g2 :: mc :: w5.heap.size :: b :: g :: m :: X) lx.length vq lx := own_sec hv (by have := hcB.size; intro x hx; show x < w1.heap.size; simp only [List.mem_cons] at hx; rcases hx with e | e | e | e | e | e | e | e; omega; omega; omega; omega; omega; omega; omega; have := hX x e; omega)
        rw [hlxl] at hsec
        obtain ⟨v2, hrun, hown, hgr⟩ := hdC2.map.update ikeyed Try.underlying65 (by show d.sure.length < maxLen; unfold maxLen; omega) (ikey_mk i (by omega)) (val := vq) rfl
        have hcm : Ch [mc] v1 v2 := (Ch.refl _ _).grown hgr (by intro k hk; cases hk; exact .inl (by simp))
        have hdC3 := hdC2.write i hi lx vq (hsec.keep hcm (by simp)) hown hgr
        go_simp
        have hT : True ∧ v2.cell? ⟨bc, 1, none⟩ = some (.map (some mc)) := ⟨trivial, cell_at hdC3.cells 1 rfl⟩
        refine hK.out _ _ hT ?_
        clear hK K
        try simp only [Act.put, List.setIfInBounds_toArray, List.set_cons_zero, List.set_cons_succ]
        refine dr_done (by kernel_rfl) ?_
        go_wp2_with fail
        have hcX : Ch [w5.heap.size, mc] wA v2 := ((hcB.mono (by simp)).trans hcd (by simp)).trans hcm (by simp)
        have hdO2 := hdO1.keep ((hcd.mono (G := w5.heap.size :: bc :: g2 :: mc :: X) (by simp)).trans hcm (by simp))
        have hrg2 := ranges_ch (ranges_ch hrg1 hcd (by simp) (by simp)) hcm (by simp; omega) (by simp; omega)
        go_roundw
        case rel => exact ⟨_, cnt1, _, hrg2, fun z hz => Hle.out z (by simp only [Bool.and_eq_true] at hz; exact hz.1), hch.trans hcX (by intro x hx; simp only [List.mem_cons, List.not_mem_nil, or_false] at hx ⊢; rcases hx with e | e; exact .inr (by omega); exact .inl e), by rw [part_put d left i lx Hlx.out] at hdC3; exact hdC3, hdO2⟩
        case measure => rw [hrg2.left_eq, hrg.left_eq]; exact hlt
  · go_simp
    have hcw := hcw.alloc (.map #[] 0)
    have hT := MK.out _ hcw
    refine hK.out _ _ hT ?_
    clear hK K
    try simp only [Act.put, List.setIfInBounds_toArray, List.set_cons_zero, List.set_cons_succ]
    refine dr_step 5 rfl (by kernel_rfl) rfl (fun K hK => ?_)
    go_simp
    refine (clone_rows (some ⟨g, 0, none⟩) d.sure.length c vs _ ((own_rd h.row).keep hcw (by simp)) h.vone (by omega)).mono ?_
    rintro e v1 ⟨vn, rfl, hrow, hcd⟩
    obtain ⟨An, cn, rfl⟩ := own_slice hrow
    have hcw := hcw.trans hcd (by simp)
    have hT := MK.out _ hcw
    refine hK.out _ _ hT ?_
    clear hK K
    try simp only [Act.put, List.setIfInBounds_toArray, List.set_cons_zero, List.set_cons_succ]
    refine dr_take 7 (some 13) (v := ?_) rfl rfl (by kernel_rfl) (by kernel_rfl) (by kernel_rfl) (fun _ _ _ h => h) rfl hT (fun W _ => ?_) ?_
    rotate_left
    · (go_simp; try with_reducible rfl)
    try simp only [Act.put, List.setIfInBounds_toArray, List.set_cons_zero, List.set_cons_succ]
    refine dr_take 16 (some 22) (v := ?_) rfl rfl (by kernel_rfl) (by kernel_rfl) (by kernel_rfl) (fun _ _ _ h => h) rfl hT (fun W _ => ?_) ?_
    rotate_left
    · (go_simp; try with_reducible rfl)
    try simp only [Act.put, List.setIfInBounds_toArray, List.set_cons_zero, List.set_cons_succ]
    refine dr_step 17 rfl (by kernel_rfl) rfl (fun K hK => ?_)
    go_simp
    have hc5 : Ch [] w (v1.alloc (.cells #[.slice An d.sure.length cn, .map (some w.heap.size), .int .i64 d.cut, .bool d.dead] 69)) := hcw.alloc _
    have hT := MK.out _ hc5
    refine hK.out _ _ hT ?_
    clear hK K
    have hsd : w.heap.size + 1 ≤ v1.heap.size := by have := hcd.size; simpa using this
    obtain ⟨g2, c2, hg2, hdC, hdO⟩ := copy_start h v1.heap.size w.heap.size (.slice An d.sure.length cn) hX hc5 (heap_alloc_new v1 _) (((Ch.refl [] v1).alloc _).at_ (hcd.at_ (heap_alloc_new w.drew _) (by simp)) (by simp)) (own_keep (own_rebase hrow (fun k hk => Nat.le_trans (by simp) (own_ge hrow k hk))) ((Ch.refl [] v1).alloc _) (by simp)) (by omega) (Nat.le_refl _)
    have hbc5 : w.heap.size ≤ v1.heap.size := by omega
    have hmc5 : w.heap.size ≤ w.heap.size := Nat.le_refl _
    clear hrow hcd hcw hsd
    generalize hbcx : v1.heap.size = bc at *
    clear hbcx
    try simp only [Act.put, List.setIfInBounds_toArray, List.set_cons_zero, List.set_cons_succ]
    refine dr_take 18 (some 3) (v := ?_) rfl rfl (by kernel_rfl) (by kernel_rfl) (by kernel_rfl) (fun _ _ _ h => h) rfl hT (fun W _ => ?_) ?_
    rotate_left
    · (go_simp; try with_reducible rfl)
    try simp only [Act.put, List.setIfInBounds_toArray, List.set_cons_zero, List.set_cons_succ]
    refine dr_done (by kernel_rfl) ?_
    clear hT MK
    generalize hW5 : v1.alloc (.cells #[.slice An d.sure.length cn, .map (some w.heap.size), .int .i64 d.cut, .bool d.dead] 69) = w5 at *
    clear hW5
    have hbcl := hdC.blt
    have hgcl := hdC.glt
    have hmcl := hdC.mlt
    have hdCc := cell_at hdO.cells 1 rfl
    have hmap := hdO.map
    have hbO := hdO.blt
    have hgO := hdO.glt
    have hmO := hdO.mlt
    go_wp2_with (first | (at_range; refine wpList_range_own (H := Value) _ rfl _ 65 rfl 3 28 ikeyed Try.underlying65 selfR m d.sure.length D rfl hmap ?_; intro w0 hrg0 hg0 hs0) | fail)
    go_frame
    have hc0 : Ch [] w5 w0 := (Ch.refl _ _).grown hg0 (by simp)
    go_loopw [4, 5] (fun _ _ wr => ∃ (left : Lit → Bool) (cnt : Nat) (Dc : DataW Value), wr.ranges Try.prog 3 selfR m w5.heap.size d.sure.length D left cnt ∧ (∀ z, left z = true → has D z = true) ∧ Ch [w.heap.size] w5 wr ∧ DiskAt wr bc g2 w.heap.size (w5.heap.size :: b :: g :: m :: X) (d.part left) c2 vs Dc ∧ DiskAt wr b g m (w5.heap.size :: bc :: g2 :: w.heap.size :: X) d c vs D)
      (fun _ _ wr => wr.rangeLeft m w5.heap.size)
    case atStart => exact ⟨_, _, _, hrg0, fun _ h => h, hc0.mono (by simp), hdC.keep (hc0.mono (by simp)), hdO.keep (hc0.mono (by simp))⟩
    case round =>
      clear hrg0 hg0 hs0 hc0 hdC hdO hdCc hmap
      obtain ⟨left, cnt, Dc, hrg, hleft, hch, hdC, hdO⟩ := hrel
      obtain ⟨wA, hwA⟩ : ∃ W, W = wr := ⟨_, rfl⟩
      subst hwA
      have hsA := hch.size
      have hrl := hrg.lt
      go_wp2_with (first | (at_next; refine wpList_next_ranges _ rfl _ rfl 3 ikeyed selfR (Value.int .i64) (fun (v : Value) => v) (fun key kl hk => by obtain ⟨x, rfl, _⟩ := Maps.keyOf_int_inv Try.underlying3 hk; exact ⟨x, rfl⟩) (fun v y _ => ⟨v, rfl⟩) m w5.heap.size d.sure.length _ _ _ rfl hrg ?_ ?_) | fail)
      · intro _ hl0
        go_wp2_with fail
        go_ret
        rw [part_none d left hl0] at hdC
        exact ⟨bc, g2, w.heap.size, rfl, by omega, by omega, by omega, ⟨c2, vs, Dc, hdC.sub (by intro x hx; exact List.mem_cons_of_mem _ hx)⟩, ⟨c, vs, D, hdO.sub (by intro x hx; exact List.mem_cons_of_mem _ hx)⟩, hc5.trans hch (by intro x hx; simp at hx; right; omega)⟩
      · intro x cv kl y yp w1 cnt1 hkey hlk hR hat hrg1 hlt hg1 hs1 hen
        obtain ⟨x', ex, rfl, hwf⟩ := Maps.keyOf_int_inv Try.underlying3 hkey
        cases ex
        simp only [selfR, Option.some.injEq, Prod.mk.injEq] at hR
        obtain ⟨rfl, rfl⟩ := hR
        obtain ⟨i, rfl, hi⟩ := hdO.keys x (hleft _ hlk)
        obtain ⟨lx, hlx⟩ : ∃ lx, d.dirty i = some lx := by
          cases hdi : d.dirty i with
          | some lx => exact ⟨lx, rfl⟩
          | none => have := hdO.none_ i hi hdi; rw [ikey, hleft _ hlk] at this; cases this
        obtain ⟨_, v', hv', hsv⟩ := hdO.some_ i lx hi hlx
        have hvv : v' = cv := by
          have e1 := hv' (.map [])
          have e2 := hat (.map [])
          rw [ikey, e2] at e1
          injection e1 with e1
          exact e1.symm
        subst hvv
        have hlxl := hsv.length
        have hcB : Ch [w5.heap.size] wA w1 := (Ch.refl _ _).grown hg1 (by intro k hk; cases hk; exact .inl (by simp))
        have hdC1 := hdC.keep (hcB.mono (by simp))
        have hdO1 := hdO.keep (hcB.mono (by simp))
        have hsv1 := hsv.keep hcB (by simp)
        obtain ⟨A, ca, rfl, hrd1, _⟩ := hsv1
        have hdCc := cell_at hdC1.cells 1 rfl
        have hsz1 := hdO.sz1
        have Hlx := Lib.hid hlx
        have Hlxl := Lib.hid hlxl
        have Hat := Lib.hid hat
        have Hle := Lib.hid hleft
        clear hlx hlxl hat hv' hsv hkey hleft hwf hlk hdC hdO
        go_wp2_with fail
        have hlxl := Hlxl.out
        refine dr_begin (by kernel_rfl) ?_
        refine dr_more (fun W => W.cell? ⟨bc, 1, none⟩ = some (.map (some w.heap.size))) ?_
        have hT : True ∧ w1.drew.cell? ⟨bc, 1, none⟩ = some (.map (some w.heap.size)) := ⟨trivial, cell_at hdC1.cells 1 rfl⟩
        refine dr_take 0 (some 35) (v := ?_) rfl rfl (by kernel_rfl) (by kernel_rfl) (by kernel_rfl) (fun _ _ _ h => h) rfl hT (fun W _ => ?_) ?_
        rotate_left
        · (go_simp; try with_reducible rfl)
        try simp only [Act.put, List.setIfInBounds_toArray, List.set_cons_zero, List.set_cons_succ]
        refine dr_take 1 (some 36) (v := ?_) rfl rfl (by kernel_rfl) (by kernel_rfl) (by kernel_rfl) (fun _ _ _ h => h) rfl hT (fun W _ => ?_) ?_
        rotate_left
        · (go_simp; try with_reducible rfl)
        try simp only [Act.put, List.setIfInBounds_toArray, List.set_cons_zero, List.set_cons_succ]
        refine dr_take 2 (some 37) (v := ?_) rfl rfl (by kernel_rfl) (by kernel_rfl) (by kernel_rfl) (fun _ _ _ h => h) rfl hT (fun W _ => ?_) ?_
        rotate_left
        · (go_simp; try with_reducible rfl)
        try simp only [Act.put, List.setIfInBounds_toArray, List.set_cons_zero, List.set_cons_succ]
        refine dr_take 3 (some 38) (v := ?_) rfl rfl (by kernel_rfl) (by kernel_rfl) (by kernel_rfl) (fun _ _ _ h => h) rfl hT (fun W _ => ?_) ?_
        rotate_left
        · (go_simp; try with_reducible rfl)
        try simp only [Act.put, List.setIfInBounds_toArray, List.set_cons_zero, List.set_cons_succ]
        refine dr_take 4 (some 39) (v := ?_) rfl rfl (by kernel_rfl) (by kernel_rfl) (by kernel_rfl) (fun _ _ _ h => h) rfl hT (fun W hW => ?_) ?_
        rotate_left
        · (have h1 := hW.2; go_simp; try with_reducible rfl)
        try simp only [Act.put, List.setIfInBounds_toArray, List.set_cons_zero, List.set_cons_succ]
        refine dr_take 5 (some 40) (v := ?_) rfl rfl (by kernel_rfl) (by kernel_rfl) (by kernel_rfl) (fun _ _ _ h => h) rfl hT (fun W _ => ?_) ?_
        rotate_left
        · (go_simp; try with_reducible rfl)
        try simp only [Act.put, List.setIfInBounds_toArray, List.set_cons_zero, List.set_cons_succ]
        refine dr_take 6 (some 41) (v := ?_) rfl rfl (by kernel_rfl) (by kernel_rfl) (by kernel_rfl) (fun _ _ _ h => h) rfl hT (fun W _ => ?_) ?_
        rotate_left
        · (go_simp; try with_reducible rfl)
        try simp only [Act.put, List.setIfInBounds_toArray, List.set_cons_zero, List.set_cons_succ]
        refine dr_step 7 rfl (by kernel_rfl) rfl (fun K hK => ?_)
        go_simp
        refine (clone_bytes A d.sz ca lx _ (hrd1.keep (F := []) (Ch.refl _ _).drew (by simp)) (by omega)).mono ?_
        rintro e v1 ⟨vq, rfl, hv, hcd⟩
        have hcd : Ch [] w1 v1 := (Ch.refl _ _).drew.trans hcd (by simp)
        have hdC2 := hdC1.keep (hcd.mono (by simp))
        have hT : True ∧ v1.cell? ⟨bc, 1, none⟩ = some (.map (some w.heap.size)) := ⟨trivial, cell_at hdC2.cells 1 rfl⟩
        refine hK.out _ _ hT ?_
        clear hK K
        try simp only [Act.put, List.setIfInBounds_toArray, List.set_cons_zero, List.set_cons_succ]
        refine dr_step 8 rfl (by kernel_rfl) rfl (fun K hK => ?_)
        go_simp
        have hsec : SecV v1 (bc :: g2 :: w.heap.size :: w5.heap.size :: b :: g :: m :: X) lx.length vq lx := own_sec hv (by have := hcB.size; intro x hx; show x < w1.heap.size; simp only [List.mem_cons] at hx; rcases hx with e | e | e | e | e | e | e | e; omega; omega; omega; omega; omega; omega; omega; have := hX x e; omega)
        rw [hlxl] at hsec
        obtain ⟨v2, hrun, hown, hgr⟩ := hdC2.map.update ikeyed Try.underlying65 (by show d.sure.length < maxLen; unfold maxLen; omega) (ikey_mk i (by omega)) (val := vq) rfl
        have hcm : Ch [w.heap.size] v1 v2 := (Ch.refl _ _).grown hgr (by intro k hk; cases hk; exact .inl (by simp))
        have hdC3 := hdC2.write i hi lx vq (hsec.keep hcm (by simp)) hown hgr
        go_simp
        have hT : True ∧ v2.cell? ⟨bc, 1, none⟩ = some (.map (some w.heap.size)) := ⟨trivial, cell_at hdC3.cells 1 rfl⟩
        refine hK.out _ _ hT ?_
        clear hK K
        try simp only [Act.put, List.setIfInBounds_toArray, List.set_cons_zero, List.set_cons_succ]
        refine dr_done (by kernel_rfl) ?_
        go_wp2_with fail
        have hcX : Ch [w5.heap.size, w.heap.size] wA v2 := ((hcB.mono (by simp)).trans hcd (by simp)).trans hcm (by simp)
        have hdO2 := hdO1.keep ((hcd.mono (G := w5.heap.size :: bc :: g2 :: w.heap.size :: X) (by simp)).trans hcm (by simp))
        have hrg2 := ranges_ch (ranges_ch hrg1 hcd (by simp) (by simp)) hcm (by simp; omega) (by simp; omega)
        go_roundw
        case rel => exact ⟨_, cnt1, _, hrg2, fun z hz => Hle.out z (by simp only [Bool.and_eq_true] at hz; exact hz.1), hch.trans hcX (by intro x hx; simp only [List.mem_cons, List.not_mem_nil, or_false] at hx ⊢; rcases hx with e | e; exact .inr (by omega); exact .inl e), by rw [part_put d left i lx Hlx.out] at hdC3; exact hdC3, hdO2⟩
        case measure => rw [hrg2.left_eq, hrg.left_eq]; exact hlt

end Go.Proofs.Ytbkncfedahifkaa
