/-
  Stores: more, or fewer, blocks that may turn beside one.
-/
import Derived.Test.YtbkncfedahifkaaGreatPStore
set_option linter.unusedVariables false
set_option linter.unusedSimpArgs false
namespace Go.Proofs.YtbkncfedahifkaaGreat
open Go.RowKit Go.Maps

section
variable {w w' : World} {sb lb um b g m n sz turn a : Nat} {X : List Nat} {D : Mp}
theorem StoreS.add (h : StoreS w sb lb um b g m X n sz turn a D) {x : Nat} (hx : w.heap.size ≤ x) : StoreS w sb lb um b g m (x :: X) n sz turn a D := by
  obtain ⟨mb, ps, h⟩ := h
  have h1 := lt_of_at h.cells
  have h2 := h.map.lt
  refine ⟨mb, ps, { h with
    log := (h.log.add hx).sub (by intro y hy; simp only [List.mem_cons] at hy ⊢; rcases hy with e | e | e <;> simp [e])
    mY := ?_
    sX := ?_ }⟩
  · simp only [List.mem_cons, not_or]; exact ⟨by omega, h.mY⟩
  · simp only [List.mem_cons, not_or]; exact ⟨by omega, h.sX⟩
theorem StoreS.sub (h : StoreS w sb lb um b g m X n sz turn a D) {Y : List Nat} (hY : ∀ x ∈ Y, x ∈ X) : StoreS w sb lb um b g m Y n sz turn a D := by
  obtain ⟨mb, ps, h⟩ := h
  refine ⟨mb, ps, { h with
    log := h.log.sub (by intro y hy; simp only [List.mem_cons] at hy ⊢; rcases hy with e | e; exact .inl e; exact .inr (hY y e))
    mY := fun hm => h.mY (hY _ hm)
    sX := fun hm => h.sX (hY _ hm) }⟩
theorem StoreD.add (h : StoreD w b g m X n sz turn a D) {x : Nat} (hx : w.heap.size ≤ x) : StoreD w b g m (x :: X) n sz turn a D := by
  obtain ⟨ps, ⟨R, next, h1, h2⟩, h3⟩ := h
  exact ⟨ps, ⟨R, next, h1.add hx, h2⟩, h3⟩
theorem StoreD.sub (h : StoreD w b g m X n sz turn a D) {Y : List Nat} (hY : ∀ x ∈ Y, x ∈ X) : StoreD w b g m Y n sz turn a D := by
  obtain ⟨ps, h1, h2⟩ := h
  exact ⟨ps, h1.sub hY, h2⟩
end

end Go.Proofs.YtbkncfedahifkaaGreat
