/-
  An argument that is a slice of pairs of the statements, opened.
-/
import Derived.Test.YtbkncfedahifkaaGreatLPairs
import Derived.Test.YtbkncfedahifkaaGreatPDisk
set_option linter.unusedVariables false
namespace Go.Proofs.YtbkncfedahifkaaGreat
open Go.ChangeShapes Go.WideShapes Go.Deep Go.RowKit

set_option maxRecDepth 100000 in
theorem rd_p5s {H : Type} {enc : TypeId × Value → H} {w : World} {base : Nat} {sp : Nat → Bool} {held : Bool} {A : Option Addr} {n c : Nat} {d : DataW H} {p : List MemPlace}
    (h : DataW.Trod enc Tryz.prog w base sp held 39 (.slice A n c) d p) : ∃ l : List P5, l.length = n ∧ Rd 3 w A n c (l.flatMap P5.cells) ∧ ∀ x ∈ l, x.ok := by
  refine rd_open P5.cells (fun x => x.ok) Tryz.underlying39 (by kernel_rfl) (fun _ => rfl) (by omega) (fun n cs x hx hl => ?_) h
  obtain ⟨y0, y1, y2, k, _, _, h0, h1, h2⟩ := trod_struct3 Tryz.underlying122 hx
  match cs, hl with
  | [v0, v1, v2], _ =>
    have c0 : Tryz.prog.cellsOf 5 = 1 := by kernel_rfl
    have c2 : Tryz.prog.cellsOf 4 = 1 := by kernel_rfl
    simp only [c0, c2, List.drop_zero, List.drop_succ_cons, List.take_succ_cons, List.take_zero] at h0 h1 h2
    obtain ⟨z0, e0, _, w0⟩ := DataW.trod_int Tryz.underlying5 h0
    obtain ⟨z1, e1, _, w1⟩ := DataW.trod_int Tryz.underlying5 h1
    obtain ⟨s, e2, _⟩ := DataW.trod_bool Tryz.underlying4 h2
    simp only [List.cons.injEq, and_true] at e0 e1 e2
    subst e0 e1 e2
    have b0 := bounds_u8' w0
    have b1 := bounds_u8' w1
    refine ⟨⟨z0.toNat, z1.toNat, s⟩, ?_, ⟨by simp only; omega, by simp only; omega⟩⟩
    simp only [P5.cells, Int.toNat_of_nonneg b0.1, Int.toNat_of_nonneg b1.1]

end Go.Proofs.YtbkncfedahifkaaGreat
