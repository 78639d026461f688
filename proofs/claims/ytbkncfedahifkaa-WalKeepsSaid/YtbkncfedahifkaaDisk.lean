/-
  Package disk: what a disk is; within, Sectors, Size, at, powered, Dead, Cut.
-/
import Derived.Test.YtbkncfedahifkaaSortedKeys
import Derived.Test.YtbkncfedahifkaaWText
set_option linter.unusedVariables false
namespace Go.Proofs.Ytbkncfedahifkaa
open Go.RowKit Go.Maps

/-- A disk, as the document speaks of it. -/
structure Dsk where
  sz : Nat
  sure : List (List UInt8)
  dirty : Nat → Option (List UInt8)
  cut : Int
  dead : Bool

/-- A map's element reads as itself. -/
def selfR (v : Value) : Option (DataW Value × List MemPlace) := some (.held v, [])
def ikey (i : Nat) : Lit := .int .i64 (i : Int)

/-- A sector's bytes, in a block that is none of F. -/
def SecV (w : World) (F : List Nat) (sz : Nat) (v : Value) (l : List UInt8) : Prop :=
  ∃ A c, v = .slice A sz c ∧ RdB w A sz c l ∧ ∀ a, A = some a → a.block ∉ F
theorem SecV.keep {w w' : World} {F G : List Nat} {sz : Nat} {v : Value} {l : List UInt8} (h : SecV w F sz v l) (hc : Ch G w w') (hG : ∀ x ∈ G, x ∈ F) : SecV w' F sz v l := by
  obtain ⟨A, c, rfl, h1, h2⟩ := h
  exact ⟨A, c, rfl, h1.keep hc (fun a ha hg => h2 a ha (hG _ hg)), h2⟩
theorem SecV.sub {w : World} {F G : List Nat} {sz : Nat} {v : Value} {l : List UInt8} (h : SecV w F sz v l) (hG : ∀ x ∈ G, x ∈ F) : SecV w G sz v l := by
  obtain ⟨A, c, rfl, h1, h2⟩ := h
  exact ⟨A, c, rfl, h1, fun a ha hg => h2 a ha (hG _ hg)⟩
theorem SecV.add {w : World} {F : List Nat} {sz x : Nat} {v : Value} {l : List UInt8} (h : SecV w F sz v l) (hsz : 0 < sz) (hx : w.heap.size ≤ x) : SecV w (x :: F) sz v l := by
  obtain ⟨A, c, rfl, h1, h2⟩ := h
  refine ⟨A, c, rfl, h1, fun a ha hg => ?_⟩
  rcases List.mem_cons.1 hg with e | hg
  · obtain ⟨b, o, e2, hc⟩ := h1.cell hsz
    rw [e2] at ha
    injection ha with ha
    subst ha
    have := World.block_lt_of_cell? w _ (hc 0 (by rw [h1.length]; exact hsz))
    simp only at this e
    omega
  · exact h2 a ha hg
theorem SecV.length {w : World} {F : List Nat} {sz : Nat} {v : Value} {l : List UInt8} (h : SecV w F sz v l) : l.length = sz := by
  obtain ⟨A, c, rfl, h1, h2⟩ := h
  exact h1.length

/-- A disk at block b, its row of sure sectors in block g, its map in block m; none of its blocks is of X. -/
structure DiskAt (w : World) (b g m : Nat) (X : List Nat) (d : Dsk) (c : Nat) (vs : List Value) (D : DataW Value) : Prop where
  cells : w.heap[b]? = some (.cells #[.slice (some ⟨g, 0, none⟩) d.sure.length c, .map (some m), .int .i64 d.cut, .bool d.dead] 69 (0, 0))
  row : w.ownsRow 0 28 1 (.slice (some ⟨g, 0, none⟩) d.sure.length c) d.sure.length vs
  map : w.ownsMap Try.prog 3 selfR m d.sure.length D
  sureV : ∀ (i : Nat) (h : i < d.sure.length), ∃ v, vs[i]? = some v ∧ SecV w (b :: g :: m :: X) d.sz v d.sure[i]
  keys : ∀ k : Int, has D (.int .i64 k) = true → ∃ i : Nat, k = (i : Int) ∧ i < d.sure.length
  none_ : ∀ i : Nat, i < d.sure.length → d.dirty i = none → has D (ikey i) = false
  some_ : ∀ (i : Nat) (l : List UInt8), i < d.sure.length → d.dirty i = some l → has D (ikey i) = true ∧ ∃ v, (∀ z, D.atKey (ikey i) z = .held v) ∧ SecV w (b :: g :: m :: X) d.sz v l
  sz0 : 64 ≤ d.sz
  sz1 : d.sz ≤ 4096
  n0 : 1 ≤ d.sure.length
  n1 : d.sure.length ≤ 4096
  cut0 : -1 ≤ d.cut
  cut1 : d.cut ≤ 9223372036854775807
  bg : b ≠ g
  bX : b ∉ X
  gX : g ∉ X
  mX : m ∉ X
def IsDisk (w : World) (b g m : Nat) (X : List Nat) (d : Dsk) : Prop := ∃ c vs D, DiskAt w b g m X d c vs D

section
variable {w : World} {b g m : Nat} {X : List Nat} {d : Dsk} {c : Nat} {vs : List Value} {D : DataW Value}
theorem DiskAt.bm (h : DiskAt w b g m X d c vs D) : b ≠ m := by
  rintro rfl
  obtain ⟨es, clock, hb, _⟩ := h.map
  rw [h.cells] at hb
  simp at hb
theorem DiskAt.gm (h : DiskAt w b g m X d c vs D) : g ≠ m := by
  rintro rfl
  obtain ⟨es, clock, hb, _⟩ := h.map
  rcases h.row.2 with ⟨e, _⟩ | ⟨g', cap, cur, e, _, hh, _⟩
  · cases e
  · simp only [Value.slice.injEq, Option.some.injEq, Addr.mk.injEq] at e
    obtain ⟨⟨rfl, _⟩, _⟩ := e
    rw [hb] at hh
    simp at hh
theorem DiskAt.blt (h : DiskAt w b g m X d c vs D) : b < w.heap.size := lt_of_at h.cells
theorem DiskAt.glt (h : DiskAt w b g m X d c vs D) : g < w.heap.size := own_lt h.row g rfl
theorem DiskAt.mlt (h : DiskAt w b g m X d c vs D) : m < w.heap.size := h.map.lt
/-- Whatever turns of X alone leaves a disk as it is. -/
theorem DiskAt.keep {w' : World} (h : DiskAt w b g m X d c vs D) (hc : Ch X w w') : DiskAt w' b g m X d c vs D :=
  { h with
    cells := hc.at_ h.cells h.bX
    row := own_keep h.row hc (by intro k hk; cases hk; exact h.gX)
    map := by
      obtain ⟨es, clock, hb, F, hs, hD⟩ := h.map
      exact ⟨es, clock, hc.at_ hb h.mX, F, hs, hD⟩
    sureV := fun i hi => by
      obtain ⟨v, h1, h2⟩ := h.sureV i hi
      exact ⟨v, h1, h2.keep hc (by simp; intro x hx; exact .inr (.inr (.inr hx)))⟩
    some_ := fun i l hi hl => by
      obtain ⟨h0, v, h1, h2⟩ := h.some_ i l hi hl
      exact ⟨h0, v, h1, h2.keep hc (by simp; intro x hx; exact .inr (.inr (.inr hx)))⟩ }
theorem IsDisk.keep {w' : World} (h : IsDisk w b g m X d) (hc : Ch X w w') : IsDisk w' b g m X d := by
  obtain ⟨c, vs, D, h⟩ := h
  exact ⟨c, vs, D, h.keep hc⟩
theorem IsDisk.nil {w' : World} (h : IsDisk w b g m X d) (hc : Ch [] w w') : IsDisk w' b g m X d := h.keep (hc.mono (by simp))
theorem IsDisk.add (h : IsDisk w b g m X d) {x : Nat} (hx : w.heap.size ≤ x) : IsDisk w b g m (x :: X) d := by
  obtain ⟨c, vs, D, h⟩ := h
  have h1 := h.blt
  have h2 := h.glt
  have h3 := h.mlt
  have hz : 0 < d.sz := by have := h.sz0; omega
  have perm : ∀ {v l}, SecV w (b :: g :: m :: X) d.sz v l → SecV w (b :: g :: m :: x :: X) d.sz v l := fun hv =>
    (hv.add hz hx).sub (by intro y hy; simp only [List.mem_cons] at hy ⊢; rcases hy with e | e | e | e | e <;> simp [e])
  exact ⟨c, vs, D, { h with
    sureV := fun i hi => by
      obtain ⟨v, q1, q2⟩ := h.sureV i hi
      exact ⟨v, q1, perm q2⟩
    some_ := fun i l hi hl => by
      obtain ⟨q0, v, q1, q2⟩ := h.some_ i l hi hl
      exact ⟨q0, v, q1, perm q2⟩
    bX := by simp only [List.mem_cons, not_or]; exact ⟨by omega, h.bX⟩
    gX := by simp only [List.mem_cons, not_or]; exact ⟨by omega, h.gX⟩
    mX := by simp only [List.mem_cons, not_or]; exact ⟨by omega, h.mX⟩ }⟩
/-- A sure sector's cell. -/
theorem DiskAt.sure_cell (h : DiskAt w b g m X d c vs D) (i : Nat) (hi : i < d.sure.length) : ∃ A ca, w.cell? ⟨g, i, none⟩ = some (.slice A d.sz ca) ∧ RdB w A d.sz ca d.sure[i] ∧ ∀ a, A = some a → a.block ∉ b :: g :: m :: X := by
  obtain ⟨v, h1, A, ca, rfl, h2, h3⟩ := h.sureV i hi
  obtain ⟨b', o', e, hc⟩ := (own_rd h.row).cells (by omega)
  injection e with e
  injection e with e1 e2
  subst e1 e2
  exact ⟨A, ca, by have := hc i _ h1; rwa [Nat.zero_add] at this, h2, h3⟩
end

/-! ### within, Sectors, Size, Dead -/
theorem within_any (x lo hi : Int) (w : World) : Calls Try.prog 79 #[.int .i64 x, .int .i64 lo, .int .i64 hi] w fun e w' => e = .returned (.int .i64 (min (max x lo) hi)) ∧ w = w' := by
  go_enter Try.func79, Try.ntmps79
  go_wp2
  go_ret
  exact ⟨rfl, rfl⟩

theorem sectors_any (b g m : Nat) (X : List Nat) (d : Dsk) (w : World) (h : IsDisk w b g m X d) : Calls Try.prog 43 #[.pointer (some ⟨b, 0, none⟩)] w fun e w' => e = .returned (.int .i64 (d.sure.length : Int)) ∧ w = w' := by
  obtain ⟨c, vs, D, h⟩ := h
  have h0 := cell_at h.cells 0 rfl
  go_enter Try.func43, Try.ntmps43
  go_wp2
  go_ret
  exact ⟨rfl, rfl⟩
theorem size_any (b g m : Nat) (X : List Nat) (d : Dsk) (w : World) (h : IsDisk w b g m X d) : Calls Try.prog 44 #[.pointer (some ⟨b, 0, none⟩)] w fun e w' => e = .returned (.int .i64 (d.sz : Int)) ∧ w = w' := by
  obtain ⟨c, vs, D, h⟩ := h
  have h0 := cell_at h.cells 0 rfl
  have hn := h.n0
  obtain ⟨A, ca, h1, _⟩ := h.sure_cell 0 (by omega)
  go_enter Try.func44, Try.ntmps44
  go_wp2
  go_ret
  exact ⟨rfl, rfl⟩
theorem dead_any (b g m : Nat) (X : List Nat) (d : Dsk) (w : World) (h : IsDisk w b g m X d) : Calls Try.prog 54 #[.pointer (some ⟨b, 0, none⟩)] w fun e w' => e = .returned (.bool d.dead) ∧ w = w' := by
  obtain ⟨c, vs, D, h⟩ := h
  have h0 := cell_at h.cells 3 rfl
  go_enter Try.func54, Try.ntmps54
  go_wp2
  go_ret
  exact ⟨rfl, rfl⟩

end Go.Proofs.Ytbkncfedahifkaa
