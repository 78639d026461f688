/-
  An argument that is a slice of parts, opened.
-/
import Derived.Test.YtbkncfedahifkaaPut
import Derived.Test.YtbkncfedahifkaaOpens
set_option linter.unusedVariables false
namespace Go.Proofs.Ytbkncfedahifkaa
open Go.ChangeShapes Go.WideShapes Go.Deep

set_option maxRecDepth 100000 in
theorem rd_parts {H : Type} {enc : TypeId × Value → H} {w : World} {base : Nat} {sp : Nat → Bool} {held : Bool} {A : Option Addr} {n c : Nat} {d : DataW H} {p : List MemPlace}
    (h : DataW.Trod enc Try.prog w base sp held 36 (.slice A n c) d p) : ∃ l : List PartL, l.length = n ∧ Rd 3 w A n c (partCells l) ∧ ∀ x ∈ l, x.ok ∧ x.t.size ≤ maxLen := by
  refine rd_open PartL.cells (fun x => x.ok ∧ x.t.size ≤ maxLen) Try.underlying36 (by kernel_rfl) (fun _ => rfl) (by omega) (fun n cs x hx hl => ?_) h
  obtain ⟨y0, y1, y2, k, _, _, h0, h1, h2⟩ := trod_struct3 Try.underlying40 hx
  match cs, hl with
  | [v0, v1, v2], _ =>
    have c0 : Try.prog.cellsOf 5 = 1 := by kernel_rfl
    have c1 : Try.prog.cellsOf 33 = 1 := by kernel_rfl
    have c2 : Try.prog.cellsOf 9 = 1 := by kernel_rfl
    simp only [c0, c1, c2, List.drop_zero, List.drop_succ_cons, List.take_succ_cons, List.take_zero] at h0 h1 h2
    obtain ⟨z0, e0, _, w0⟩ := DataW.trod_int Try.underlying5 h0
    obtain ⟨z1, e1, _, w1⟩ := DataW.trod_int Try.underlying33 h1
    obtain ⟨s, e2, _, w2⟩ := DataW.trod_string Try.underlying9 h2
    simp only [List.cons.injEq, and_true] at e0 e1 e2
    subst e0 e1 e2
    have b0 := bounds_u8' w0
    have b1 := bounds_u64' w1
    refine ⟨⟨z0.toNat, z1.toNat, s⟩, ?_, ⟨by simp only; omega, by simp only; omega⟩, w2⟩
    simp only [PartL.cells, Int.toNat_of_nonneg b0.1, Int.toNat_of_nonneg b1.1]

end Go.Proofs.Ytbkncfedahifkaa
