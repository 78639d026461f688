/-
  Package disk: a sure sector stored; all written sectors cleared.
-/
import Derived.Test.YtbkncfedahifkaaDWrite
set_option linter.unusedVariables false
namespace Go.Proofs.Ytbkncfedahifkaa
open Go.RowKit Go.Maps Go.MapKept Go.ChangeMaps

/-- A sure sector replaced. -/
def Dsk.sureAt (d : Dsk) (i : Nat) (l : List UInt8) : Dsk := { d with sure := d.sure.set i l }
/-- None left that is not sure. -/
def Dsk.clean (d : Dsk) : Dsk := { d with dirty := fun _ => none }

section
variable {w : World} {b g m : Nat} {X : List Nat} {d : Dsk} {c : Nat} {vs : List Value} {D : DataW Value}
theorem DiskAt.setSure (h : DiskAt w b g m X d c vs D) (i : Nat) (hi : i < d.sure.length) (l : List UInt8) (v : Value) (hv : SecV w (b :: g :: m :: X) d.sz v l) :
    DiskAt (w.setCell ⟨g, i, none⟩ v) b g m X (d.sureAt i l) c (vs.set i v) D := by
  have hbg := h.bg
  have hgm := h.gm
  have hc : Ch [g] w (w.setCell ⟨g, i, none⟩ v) := (Ch.refl _ _).setCell _ _ (by simp)
  have hlen : (d.sureAt i l).sure.length = d.sure.length := by simp [Dsk.sureAt]
  have hvl : vs.length = d.sure.length := by have := h.row.1; simpa using this
  have hkeep : ∀ {v' : Value} {l' : List UInt8}, SecV w (b :: g :: m :: X) d.sz v' l' → SecV (w.setCell ⟨g, i, none⟩ v) (b :: g :: m :: X) d.sz v' l' := fun q => q.keep hc (by simp)
  constructor
  · rw [hlen]; exact hc.at_ h.cells (by simpa using hbg)
  · rw [hlen]; exact (h.row.stored i v).1
  · rw [hlen]
    obtain ⟨es, clock, hb, F, hsz, hD⟩ := h.map
    exact ⟨es, clock, hc.at_ hb (by simpa using fun e => hgm e.symm), F, hsz, hD⟩
  · intro j hj
    rw [hlen] at hj
    by_cases hji : i = j
    · subst hji
      refine ⟨v, by rw [List.getElem?_set_self (by omega)], ?_⟩
      have : (d.sureAt i l).sure[i] = l := by simp [Dsk.sureAt]
      rw [this]
      exact hkeep hv
    · obtain ⟨v', q1, q2⟩ := h.sureV j hj
      refine ⟨v', by rw [List.getElem?_set_ne hji]; exact q1, ?_⟩
      have : (d.sureAt i l).sure[j] = d.sure[j] := by simp [Dsk.sureAt, hji]
      rw [this]
      exact hkeep q2
  · rw [hlen]; exact h.keys
  · rw [hlen]; exact h.none_
  · rw [hlen]
    intro j q hj hq
    obtain ⟨q0, v', q1, q2⟩ := h.some_ j q hj hq
    exact ⟨q0, v', q1, hkeep q2⟩
  · exact h.sz0
  · exact h.sz1
  · rw [hlen]; exact h.n0
  · rw [hlen]; exact h.n1
  · exact h.cut0
  · exact h.cut1
  · exact hbg
  · exact h.bX
  · exact h.gX
  · exact h.mX
theorem clear_run (ty : TypeId) {N : Nat} (h : w.ownsMap Try.prog 3 selfR m N D) :
    ∃ w', (Builtin.clear_ #[65] ty #[.map (some m)]).run Try.prog w = .ok (.tuple #[]) w' ∧ w'.ownsMap Try.prog 3 selfR m 0 (.map []) ∧ w.grownBy w' (some m) := by
  obtain ⟨es, clock, hb, F, hsz, rfl⟩ := h
  refine ⟨setBlock w m (.map #[] clock), ?_, ⟨#[], clock, heap_setBlock_same hb _, ⟨by simp, stamped_empty clock, by simp⟩, Nat.le_refl _, rfl⟩, ⟨rfl, rfl, rfl, by simp [setBlock], fun i _ hi => heap_setBlock_other hb _ (fun e => hi (by rw [e]))⟩⟩
  simp [Builtin.clear_, run_underlying Try.underlying65, MapKept.run_getObj_map hb, MapKept.run_setObj_map _ hb, Result.andThen, setBlock]
theorem DiskAt.clear {w' : World} (h : DiskAt w b g m X d c vs D) (hm : w'.ownsMap Try.prog 3 selfR m 0 (.map [])) (hg : w.grownBy w' (some m)) : DiskAt w' b g m X d.clean c vs (.map []) := by
  have hbm := h.bm
  have hgm := h.gm
  have hc : Ch [m] w w' := (Ch.refl _ _).grown hg (by intro k hk; cases hk; exact .inl (by simp))
  exact {
    cells := hc.at_ h.cells (by simpa using hbm)
    row := own_keep h.row hc (by intro k hk; cases hk; simpa using hgm)
    map := hm.mono (Nat.zero_le _)
    sureV := fun j hj => by
      obtain ⟨v', q1, q2⟩ := h.sureV j hj
      exact ⟨v', q1, q2.keep hc (by simp)⟩
    keys := fun k hk => by simp [has_eq] at hk
    none_ := fun i _ _ => by simp [has_eq]
    some_ := fun i l _ hl => by simp [Dsk.clean] at hl
    sz0 := h.sz0, sz1 := h.sz1, n0 := h.n0, n1 := h.n1, cut0 := h.cut0, cut1 := h.cut1, bg := h.bg, bX := h.bX, gX := h.gX, mX := h.mX }
end

end Go.Proofs.Ytbkncfedahifkaa
