/-
  Package disk: the written sectors' numbers, in order; a sector written.
-/
import Derived.Test.YtbkncfedahifkaaDRead
set_option linter.unusedVariables false
namespace Go.Proofs.Ytbkncfedahifkaa
open Go.RowKit Go.Maps

/-- The numbers of the sectors that are not yet sure, in order. -/
def Dsk.idx (d : Dsk) : List Nat := (List.range d.sure.length).filter fun i => (d.dirty i).isSome
def zs (l : List Nat) : List Int := l.map fun (i : Nat) => (i : Int)
theorem Dsk.idx_lt (d : Dsk) : ∀ i ∈ d.idx, i < d.sure.length ∧ ∃ l, d.dirty i = some l := by
  intro i hi
  simp only [Dsk.idx, List.mem_filter, List.mem_range] at hi
  exact ⟨hi.1, Option.isSome_iff_exists.1 hi.2⟩
theorem Dsk.idx_pair (d : Dsk) : d.idx.Pairwise (· < ·) := List.Pairwise.filter _ List.pairwise_lt_range
theorem Dsk.idx_len (d : Dsk) : d.idx.length ≤ d.sure.length := by
  have := List.length_filter_le (fun i => (d.dirty i).isSome) (List.range d.sure.length)
  rw [List.length_range] at this
  exact this
theorem zs_nodup {l : List Nat} (h : l.Pairwise (· < ·)) : (zs l).Nodup := by
  unfold zs
  refine List.pairwise_map.2 (h.imp ?_)
  intro a b hab e
  omega
theorem zs_sorted {l : List Nat} (h : l.Pairwise (· < ·)) : (zs l).mergeSort leI = zs l := by
  refine List.mergeSort_of_pairwise ?_
  unfold zs
  refine List.pairwise_map.2 (h.imp ?_)
  intro a b hab
  simp [leI]
  omega

section
variable {w : World} {b g m : Nat} {X : List Nat} {d : Dsk} {c : Nat} {vs : List Value} {D : DataW Value}
theorem DiskAt.has_iff (h : DiskAt w b g m X d c vs D) (x : Int) : has D (.int .i64 x) = true ↔ x ∈ zs d.idx := by
  constructor
  · intro hh
    obtain ⟨i, rfl, hi⟩ := h.keys x hh
    cases hd : d.dirty i with
    | none => have := h.none_ i hi hd; rw [ikey, hh] at this; cases this
    | some l => exact List.mem_map.2 ⟨i, by simp [Dsk.idx, hi, hd], rfl⟩
  · intro hx
    obtain ⟨i, hi, rfl⟩ := List.mem_map.1 hx
    obtain ⟨hi, l, hl⟩ := d.idx_lt i hi
    exact (h.some_ i l hi hl).1
theorem map_keys {n N : Nat} {D : DataW Value} {l : List Nat} (hown : w.ownsMap Try.prog 3 selfR m N D) (hl : l.Pairwise (· < ·)) (hi : ∀ x : Int, has D (.int .i64 x) = true ↔ x ∈ zs l) : (zs l).Perm (intKeys D) :=
  CollectedI.perm (left := fun _ => false) ⟨zs_nodup hl, fun x => by rw [hi x]; simp⟩ hown ikeyed Try.underlying3 (fun _ => rfl)
theorem DiskAt.perm (h : DiskAt w b g m X d c vs D) : (zs d.idx).Perm (intKeys D) := map_keys (n := 0) h.map d.idx_pair h.has_iff
theorem size_keys {D : DataW Value} {n : Nat} {l : List Nat} (h : IsMap D) (hp : (zs l).Perm (intKeys D)) : Maps.size D = l.length := by
  obtain ⟨es, rfl⟩ := h
  have := hp.length_eq
  simp only [zs, intKeys, List.length_map] at this
  rw [size_eq, this]
theorem DiskAt.size (h : DiskAt w b g m X d c vs D) : Maps.size D = d.idx.length := size_keys (n := 0) h.map.isMap h.perm
/-- No more entries than its size. -/
theorem ownsMap_tight {N : Nat} (h : w.ownsMap Try.prog 3 selfR m N D) {n : Nat} (hs : Maps.size D ≤ n) : w.ownsMap Try.prog 3 selfR m n D := by
  obtain ⟨es, clock, hb, F, hsz, rfl⟩ := h
  refine ⟨es, clock, hb, F, ?_, rfl⟩
  rw [size_eq, length_read] at hs
  exact hs
end

/-- Sector i written. -/
def Dsk.put (d : Dsk) (i : Nat) (l : List UInt8) : Dsk := { d with dirty := fun j => if j = i then some l else d.dirty j }
theorem ikey_ne {i j : Nat} (h : i ≠ j) : ikey i ≠ ikey j := by
  intro e
  simp only [ikey, Lit.int.injEq, true_and] at e
  omega
theorem ikey_key (i : Nat) : WideAt.IsKeyLit (ikey i) := by unfold ikey; trivial

section
variable {w w' : World} {b g m : Nat} {X : List Nat} {d : Dsk} {c : Nat} {vs : List Value} {D : DataW Value}
theorem DiskAt.write (h : DiskAt w b g m X d c vs D) (i : Nat) (hi : i < d.sure.length) (l : List UInt8) (v : Value) (hv : SecV w' (b :: g :: m :: X) d.sz v l) {N : Nat}
    (hm : w'.ownsMap Try.prog 3 selfR m N (D.put (ikey i) (.held v))) (hg : w.grownBy w' (some m)) : DiskAt w' b g m X (d.put i l) c vs (D.put (ikey i) (.held v)) := by
  have hbm := h.bm
  have hgm := h.gm
  have hc : Ch [m] w w' := (Ch.refl _ _).grown hg (by intro k hk; cases hk; exact .inl (by simp))
  have hD := h.map.isMap
  have hkeys : ∀ k : Int, has (D.put (ikey i) (.held v)) (.int .i64 k) = true → ∃ j : Nat, k = (j : Int) ∧ j < d.sure.length := by
    intro k hk
    by_cases e : k = (i : Int)
    · exact ⟨i, e, hi⟩
    · rw [has_put_other (by simpa [ikey] using e)] at hk
      exact h.keys k hk
  have hnone : ∀ j : Nat, j < d.sure.length → (d.put i l).dirty j = none → has (D.put (ikey i) (.held v)) (ikey j) = false := by
    intro j hj hd
    simp only [Dsk.put] at hd
    split at hd
    · cases hd
    · rename_i hne
      rw [has_put_other (ikey_ne hne)]
      exact h.none_ j hj hd
  have hsome : ∀ (j : Nat) (q : List UInt8), j < d.sure.length → (d.put i l).dirty j = some q → has (D.put (ikey i) (.held v)) (ikey j) = true ∧ ∃ v', (∀ z, (D.put (ikey i) (.held v)).atKey (ikey j) z = .held v') ∧ SecV w' (b :: g :: m :: X) d.sz v' q := by
    intro j q hj hd
    simp only [Dsk.put] at hd
    split at hd
    · rename_i e
      subst e
      simp only [Option.some.injEq] at hd
      subst hd
      exact ⟨has_put_same hD (ikey_key j) _, v, fun z => atKey_put_same hD (ikey_key j) _ z, hv⟩
    · rename_i hne
      obtain ⟨q0, v', q1, q2⟩ := h.some_ j q hj hd
      exact ⟨by rw [has_put_other (ikey_ne hne)]; exact q0, v', fun z => by rw [atKey_put_other (ikey_ne hne)]; exact q1 z, q2.keep hc (by simp)⟩
  have hiff : ∀ x : Int, has (D.put (ikey i) (.held v)) (.int .i64 x) = true ↔ x ∈ zs (d.put i l).idx := by
    intro x
    constructor
    · intro hh
      obtain ⟨j, rfl, hj⟩ := hkeys x hh
      cases hd : (d.put i l).dirty j with
      | none => have h2 := hnone j hj hd; exact absurd (hh.symm.trans h2) (by simp)
      | some q => exact List.mem_map.2 ⟨j, by simp only [Dsk.idx, List.mem_filter, List.mem_range, hd]; exact ⟨hj, rfl⟩, rfl⟩
    · intro hx
      obtain ⟨j, hj, rfl⟩ := List.mem_map.1 hx
      obtain ⟨hj, q, hq⟩ := (d.put i l).idx_lt j hj
      exact (hsome j q hj hq).1
  have hsz : Maps.size (D.put (ikey i) (.held v)) ≤ d.sure.length := by
    rw [size_keys (n := 0) (IsMap.put hD _ _) (map_keys (n := 0) hm (d.put i l).idx_pair hiff)]
    exact (d.put i l).idx_len
  exact {
    cells := hc.at_ h.cells (by simpa using hbm)
    row := own_keep h.row hc (by intro k hk; cases hk; simpa using hgm)
    map := ownsMap_tight hm hsz
    sureV := fun j hj => by
      obtain ⟨v', q1, q2⟩ := h.sureV j hj
      exact ⟨v', q1, q2.keep hc (by simp)⟩
    keys := hkeys
    none_ := hnone
    some_ := hsome
    sz0 := h.sz0, sz1 := h.sz1, n0 := h.n0, n1 := h.n1, cut0 := h.cut0, cut1 := h.cut1, bg := h.bg, bX := h.bX, gX := h.gX, mX := h.mX }
end

end Go.Proofs.Ytbkncfedahifkaa
