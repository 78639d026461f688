/-
  Package disk: at, powered, Cut, Read.
-/
import Derived.Test.YtbkncfedahifkaaDisk
set_option linter.unusedVariables false
namespace Go.Proofs.Ytbkncfedahifkaa
open Go.RowKit Go.Maps

section
variable {w : World} {b g m : Nat} {X : List Nat} {d : Dsk} {c : Nat} {vs : List Value} {D : DataW Value}
/-- What turns block b alone, and leaves sectors and map. -/
theorem DiskAt.turnB {w' : World} {d' : Dsk} (h : DiskAt w b g m X d c vs D) (hc : Ch [b] w w') (hz : d'.sz = d.sz) (hs : d'.sure = d.sure) (hd : d'.dirty = d.dirty) (c0 : -1 ≤ d'.cut) (c1 : d'.cut ≤ 9223372036854775807)
    (hcell : w'.heap[b]? = some (.cells #[.slice (some ⟨g, 0, none⟩) d.sure.length c, .map (some m), .int .i64 d'.cut, .bool d'.dead] 69 (0, 0))) : DiskAt w' b g m X d' c vs D := by
  have hbg := h.bg
  have hbm := h.bm
  constructor
  · rw [hs]; exact hcell
  · rw [hs]; exact own_keep h.row hc (by intro k hk; cases hk; simpa using fun e => hbg e.symm)
  · rw [hs]
    obtain ⟨es, clock, hb, F, hsz, hD⟩ := h.map
    exact ⟨es, clock, hc.at_ hb (by simpa using fun e => hbm e.symm), F, hsz, hD⟩
  · intro i hi
    simp only [hs] at hi ⊢
    obtain ⟨v, q1, q2⟩ := h.sureV i hi
    rw [hz]
    exact ⟨v, q1, q2.keep hc (by simp)⟩
  · rw [hs]; exact h.keys
  · rw [hs, hd]; exact h.none_
  · rw [hs, hd, hz]
    intro i l hi hl
    obtain ⟨q0, v, q1, q2⟩ := h.some_ i l hi hl
    exact ⟨q0, v, q1, q2.keep hc (by simp)⟩
  · rw [hz]; exact h.sz0
  · rw [hz]; exact h.sz1
  · rw [hs]; exact h.n0
  · rw [hs]; exact h.n1
  · exact c0
  · exact c1
  · exact hbg
  · exact h.bX
  · exact h.gX
  · exact h.mX
theorem DiskAt.setCut (h : DiskAt w b g m X d c vs D) (n : Int) (h0 : -1 ≤ n) (h1 : n ≤ 9223372036854775807) : DiskAt (w.setCell ⟨b, 2, none⟩ (.int .i64 n)) b g m X { d with cut := n } c vs D :=
  h.turnB ((Ch.refl _ _).setCell _ _ (by simp)) rfl rfl rfl h0 h1 (by have := heap_setCell_same w b 2 _ 69 (.int .i64 n) h.cells; simpa using this)
theorem DiskAt.setDead (h : DiskAt w b g m X d c vs D) (x : Bool) : DiskAt (w.setCell ⟨b, 3, none⟩ (.bool x)) b g m X { d with dead := x } c vs D :=
  h.turnB ((Ch.refl _ _).setCell _ _ (by simp)) rfl rfl rfl h.cut0 h.cut1 (by have := heap_setCell_same w b 3 _ 69 (.bool x) h.cells; simpa using this)
end

def Dsk.at_ (d : Dsk) (i : Int) : Int := if d.dead then 32 else if i < 0 ∨ (d.sure.length : Int) ≤ i then 30 else 0
theorem at_any (b g m : Nat) (X : List Nat) (d : Dsk) (i : Int) (w : World) (h : IsDisk w b g m X d) : Calls Try.prog 80 #[.pointer (some ⟨b, 0, none⟩), .int .i64 i] w fun e w' => e = .returned (.int .i64 (d.at_ i)) ∧ w = w' := by
  obtain ⟨c, vs, D, h⟩ := h
  have h0 := cell_at h.cells 0 rfl
  have h3 := cell_at h.cells 3 rfl
  obtain ⟨sz, sure, dirty, cut, dead⟩ := d
  simp only at h0 h3
  cases dead
  · by_cases hi : i < 0
    · have e : (Dsk.mk sz sure dirty cut false).at_ i = 30 := by simp [Dsk.at_, hi]
      rw [e]
      go_enter Try.func80, Try.ntmps80
      go_wp2
      go_ret
      exact ⟨rfl, rfl⟩
    · by_cases hn : (sure.length : Int) ≤ i
      · have e : (Dsk.mk sz sure dirty cut false).at_ i = 30 := by simp [Dsk.at_, hn]
        rw [e]
        go_enter Try.func80, Try.ntmps80
        go_wp2
        go_ret
        exact ⟨rfl, rfl⟩
      · have e : (Dsk.mk sz sure dirty cut false).at_ i = 0 := by simp [Dsk.at_]; omega
        rw [e]
        go_enter Try.func80, Try.ntmps80
        go_wp2
        go_ret
        exact ⟨rfl, rfl⟩
  · have e : (Dsk.mk sz sure dirty cut true).at_ i = 32 := by simp [Dsk.at_]
    rw [e]
    go_enter Try.func80, Try.ntmps80
    go_wp2
    go_ret
    exact ⟨rfl, rfl⟩

/-- Power for one more. -/
def Dsk.power (d : Dsk) : Dsk × Bool := if d.cut = 0 then ({ d with dead := true }, false) else if 0 < d.cut then ({ d with cut := d.cut - 1 }, true) else (d, true)
def errIf (ok : Bool) : Int := if ok then 0 else 32
theorem powered_any (b g m : Nat) (X : List Nat) (d : Dsk) (w : World) (h : IsDisk w b g m X d) : Calls Try.prog 81 #[.pointer (some ⟨b, 0, none⟩)] w fun e w' => e = .returned (.int .i64 (errIf d.power.2)) ∧ IsDisk w' b g m X d.power.1 ∧ Ch [b] w w' := by
  obtain ⟨c, vs, D, h⟩ := h
  have h2 := cell_at h.cells 2 rfl
  have h3 := cell_at h.cells 3 rfl
  have hf2 := free_at h.cells 2
  have hf3 := free_at h.cells 3
  by_cases h0 : d.cut = 0
  · have e : d.power = ({ d with dead := true }, false) := by simp [Dsk.power, h0]
    rw [e]
    have hz : (d.cut == 0) = true := by rw [beq_iff_eq]; exact h0
    have hs := h.setDead true
    clear h0
    go_enter Try.func81, Try.ntmps81
    go_wp2
    go_ret
    exact ⟨rfl, ⟨c, vs, D, hs⟩, (Ch.refl _ _).setCell _ _ (by simp)⟩
  · have hz : (d.cut == 0) = false := by rw [beq_eq_false_iff_ne]; exact h0
    by_cases hp : 0 < d.cut
    · have e : d.power = ({ d with cut := d.cut - 1 }, true) := by simp [Dsk.power, h0, hp]
      rw [e]
      have hc1 := h.cut1
      have hs := h.setCut (d.cut - 1) (by omega) (by omega)
      go_enter Try.func81, Try.ntmps81
      go_wp2
      go_ret
      exact ⟨rfl, ⟨c, vs, D, hs⟩, (Ch.refl _ _).setCell _ _ (by simp)⟩
    · have e : d.power = (d, true) := by simp [Dsk.power, h0, hp]
      rw [e]
      go_enter Try.func81, Try.ntmps81
      go_wp2
      go_ret
      exact ⟨rfl, ⟨c, vs, D, h⟩, Ch.refl _ _⟩
theorem cut_any (b g m : Nat) (X : List Nat) (d : Dsk) (n : Int) (w : World) (hn : n ≤ 9223372036854775807) (h : IsDisk w b g m X d) : Calls Try.prog 51 #[.pointer (some ⟨b, 0, none⟩), .int .i64 n] w fun e w' => e = .returned (.tuple #[]) ∧ IsDisk w' b g m X { d with cut := max n 0 } ∧ Ch [b] w w' := by
  obtain ⟨c, vs, D, h⟩ := h
  have hf2 := free_at h.cells 2
  have h2 := cell_at h.cells 2 rfl
  have hs := h.setCut (max n 0) (by omega) (by omega)
  go_enter Try.func51, Try.ntmps51
  go_wp2
  go_end0
  exact ⟨rfl, ⟨c, vs, D, hs⟩, (Ch.refl _ _).setCell _ _ (by simp)⟩

end Go.Proofs.Ytbkncfedahifkaa
