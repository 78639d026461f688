/-
  An argument that is a slice of acts of layer 25, opened.
-/
import Derived.Test.YtbkncfedahifkaaGreatLatchKnown
import Derived.Test.YtbkncfedahifkaaGreatP5Arg
set_option linter.unusedVariables false
set_option linter.unusedSimpArgs false
namespace Go.Proofs.YtbkncfedahifkaaGreat
open Go.ChangeShapes Go.WideShapes Go.Deep Go.RowKit Go.Maps

structure ActL where
  what : Nat
  owner : Nat
def ActL.cells (a : ActL) : List Value := [.int .u8 (a.what : Int), .int .u8 (a.owner : Int)]
def ActL.ok (a : ActL) : Prop := a.what < 256 ∧ a.owner < 256

set_option maxRecDepth 100000 in
theorem rd_acts25 {H : Type} {enc : TypeId × Value → H} {w : World} {base : Nat} {sp : Nat → Bool} {held : Bool} {A : Option Addr} {n c : Nat} {d : DataW H} {p : List MemPlace}
    (h : DataW.Trod enc Tryz.prog w base sp held 64 (.slice A n c) d p) : ∃ l : List ActL, l.length = n ∧ Rd 2 w A n c (l.flatMap ActL.cells) ∧ ∀ x ∈ l, x.ok := by
  refine rd_open ActL.cells (fun x => x.ok) Tryz.underlying64 (by kernel_rfl) (fun _ => rfl) (by omega) (fun n cs x hx hl => ?_) h
  obtain ⟨y0, y1, k, _, _, h0, h1⟩ := trod_struct2 Tryz.underlying66 hx
  match cs, hl with
  | [v0, v1], _ =>
    have c0 : Tryz.prog.cellsOf 5 = 1 := by kernel_rfl
    simp only [c0, List.drop_zero, List.drop_succ_cons, List.take_succ_cons, List.take_zero] at h0 h1
    obtain ⟨z0, e0, _, w0⟩ := DataW.trod_int Tryz.underlying5 h0
    obtain ⟨z1, e1, _, w1⟩ := DataW.trod_int Tryz.underlying5 h1
    simp only [List.cons.injEq, and_true] at e0 e1
    subst e0 e1
    have b0 := bounds_u8' w0
    have b1 := bounds_u8' w1
    refine ⟨⟨z0.toNat, z1.toNat⟩, ?_, ⟨by simp only; omega, by simp only; omega⟩⟩
    simp only [ActL.cells, Int.toNat_of_nonneg b0.1, Int.toNat_of_nonneg b1.1]

theorem acts25_cells {w : World} {A : Option Addr} {n c : Nat} {l : List ActL} (h : Rd 2 w A n c (l.flatMap ActL.cells)) (k : Nat) (hk : k < l.length) (hn : l.length = n) : ∃ b o, A = some ⟨b, o, none⟩ ∧ w.cell? ⟨b, o + k * 2, none⟩ = some (.int .u8 (l[k].what : Int)) ∧ w.cell? ⟨b, o + k * 2 + 1, none⟩ = some (.int .u8 (l[k].owner : Int)) := by
  obtain ⟨b, o, e, hc⟩ := h.cells (by omega)
  refine ⟨b, o, e, hc (k * 2) _ ?_, ?_⟩
  · have := flatMap_even_get ActL.cells 2 (fun _ => rfl) l k hk 0 (by omega)
    rw [Nat.add_zero] at this
    rw [this]; rfl
  · have := flatMap_even_get ActL.cells 2 (fun _ => rfl) l k hk 1 (by omega)
    rw [Nat.add_assoc]
    exact hc (k * 2 + 1) _ (by rw [this]; rfl)

end Go.Proofs.YtbkncfedahifkaaGreat
