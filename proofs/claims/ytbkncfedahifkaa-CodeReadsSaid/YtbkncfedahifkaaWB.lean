/-
  Two writers and slices that are held: what a region that draws, and compares their bytes, stands on.
-/
import Derived.Test.YtbkncfedahifkaaL2
import Derived.Deep.RegionWith
import Derived.Test.YtbkncfedahifkaaDraw
set_option linter.unusedVariables false
namespace Go.Proofs.Ytbkncfedahifkaa
open Go.RowKit

abbrev Held := Option Addr × Nat × Nat × List UInt8
/-- Two writers; what was handed out. -/
structure WB (w cur : World) (p q : Nat) (op oq : Option Nat) (la lb : List UInt8) (H : List Held) : Prop where
  wp : IsWr cur p op la
  wq : IsWr cur q oq lb
  ch : Ch [] w cur
  held : ∀ x ∈ H, RdB cur x.1 x.2.1 x.2.2.1 x.2.2.2
section
variable {w cur : World} {p q : Nat} {op oq : Option Nat} {la lb : List UInt8} {H : List Held}
theorem WB.nil {cur' : World} (h : WB w cur p q op oq la lb H) (hc : Ch [] cur cur') : WB w cur' p q op oq la lb H :=
  ⟨h.wp.keep hc (by simp) (by simp), h.wq.keep hc (by simp) (by simp), h.ch.trans hc (by simp), fun x hx => (h.held x hx).nil hc⟩
theorem WB.drew (h : WB w cur p q op oq la lb H) : WB w cur.drew p q op oq la lb H := h.nil (Ch.refl _ _).drew
theorem WB.more {cur' : World} {l : List UInt8} {v : Value} (h : WB w cur p q op oq la lb H) (hc : Ch [] cur cur') (hv : OwnB cur.heap.size l cur' v) :
    ∃ A c, v = .slice A l.length c ∧ WB w cur' p q op oq la lb ((A, l.length, c, l) :: H) := by
  obtain ⟨A, c, rfl, hown⟩ := hv
  have h' := h.nil hc
  refine ⟨A, c, rfl, h'.wp, h'.wq, h'.ch, ?_⟩
  intro x hx
  rcases List.mem_cons.1 hx with rfl | hx
  · exact own_rd hown
  · exact h'.held x hx
theorem WB.bytesP (h : WB w cur p q op oq la lb H) (hn : la.length ≤ 140737488355328) :
    Calls Try.prog 22 #[.pointer (some ⟨p, 0, none⟩)] cur fun e w' => ∃ A c, e = .returned (.slice A la.length c) ∧ WB w w' p q op oq la lb ((A, la.length, c, la) :: H) :=
  (wbytes p op la cur h.wp hn).mono fun e w' ⟨v, he, hv, hc⟩ => by
    obtain ⟨A, c, rfl, h'⟩ := h.more hc hv
    exact ⟨A, c, he, h'⟩
theorem WB.bytesQ (h : WB w cur p q op oq la lb H) (hn : lb.length ≤ 140737488355328) :
    Calls Try.prog 22 #[.pointer (some ⟨q, 0, none⟩)] cur fun e w' => ∃ A c, e = .returned (.slice A lb.length c) ∧ WB w w' p q op oq la lb ((A, lb.length, c, lb) :: H) :=
  (wbytes q oq lb cur h.wq hn).mono fun e w' ⟨v, he, hv, hc⟩ => by
    obtain ⟨A, c, rfl, h'⟩ := h.more hc hv
    exact ⟨A, c, he, h'⟩
theorem WB.conv (h : WB w cur p q op oq la lb H) : ∀ x ∈ H, (convert 28 9 (.slice x.1 x.2.1 x.2.2.1)).run Try.prog cur = .ok (.string (str x.2.2.2)) cur :=
  fun x hx => conv_str (h.held x hx) 28 5 9 Try.underlying28 Try.underlying5 Try.underlying9
end

end Go.Proofs.Ytbkncfedahifkaa
