/-
  Package code: Bytes; the reader: what it is; NewReader; must; num.
-/
import Derived.Test.YtbkncfedahifkaaWText
import Derived.BigQuiet
set_option linter.unusedVariables false
namespace Go.Proofs.Ytbkncfedahifkaa
open Go.RowKit

set_option maxRecDepth 100000 in
theorem wbytes (b : Nat) (o : Option Nat) (l : List UInt8) (w : World) (hw : IsWr w b o l) (hn : l.length ≤ 140737488355328) :
    Calls Try.prog 22 #[.pointer (some ⟨b, 0, none⟩)] w fun e w' => ∃ v, e = .returned v ∧ OwnB w.heap.size l w' v ∧ Ch [] w w' := by
  obtain ⟨v, hb, hown, hv⟩ := hw
  obtain ⟨A, c, rfl⟩ := own_slice hown
  have hc := cell_at hb 0 rfl
  go_enter Try.func22, Try.ntmps22
  go_wp2_with fail
  refine (clone_bytes A _ c l _ (own_rd hown) hn).mono ?_
  rintro e w' ⟨v, rfl, h1, h2⟩
  go_wp2
  go_ret
  exact ⟨v, rfl, h1, h2⟩

/-- A reader at block b; the bytes that are left (none: it failed); they lie in block g. -/
def IsRd (w : World) (b g : Nat) (st : Option (List UInt8)) : Prop :=
  g < w.heap.size ∧ ∃ A n c f, w.heap[b]? = some (.cells #[.slice A n c, .bool f] 109 (0, 0)) ∧ (∀ a, A = some a → a.block = g ∧ g ≠ b) ∧
    (match st with
      | none => f = true
      | some l => f = false ∧ RdB w A n c l ∧ n ≤ 140737488355328)

theorem IsRd.lt {w : World} {b g : Nat} {st : Option (List UInt8)} (h : IsRd w b g st) : b < w.heap.size := by
  obtain ⟨_, A, n, c, f, hb, _⟩ := h
  exact lt_of_at hb
theorem IsRd.keep {w w' : World} {b g : Nat} {st : Option (List UInt8)} {F : List Nat} (h : IsRd w b g st) (hc : Ch F w w') (hb : b ∉ F) (hg : g ∉ F) : IsRd w' b g st := by
  obtain ⟨h0, A, n, c, f, h1, h2, h3⟩ := h
  refine ⟨Nat.lt_of_lt_of_le h0 hc.size, A, n, c, f, hc.at_ h1 hb, h2, ?_⟩
  cases st with
  | none => exact h3
  | some l => exact ⟨h3.1, h3.2.1.keep hc (fun a ha => by rw [(h2 a ha).1]; exact hg), h3.2.2⟩
theorem IsRd.nil {w w' : World} {b g : Nat} {st : Option (List UInt8)} (h : IsRd w b g st) (hc : Ch [] w w') : IsRd w' b g st := h.keep hc (by simp) (by simp)

set_option maxRecDepth 100000 in
theorem new_reader (A : Option Addr) (n c : Nat) (l : List UInt8) (w : World) (hr : RdB w A n c l) (hn : n ≤ 140737488355328) :
    Calls Try.prog 21 #[.slice A n c] w fun e w' => ∃ b g, e = .returned (.pointer (some ⟨b, 0, none⟩)) ∧ IsRd w' b g (some l) ∧ w.heap.size ≤ b ∧ w.heap.size ≤ g ∧ Ch [] w w' := by
  go_enter Try.func21, Try.ntmps21
  go_wp2_with fail
  refine (clone_bytes A n c l _ hr hn).mono ?_
  rintro e w' ⟨v, rfl, ⟨A1, c1, rfl, hown⟩, h2⟩
  go_wp2
  go_ret
  have hl : l.length = n := hr.length
  have hs := h2.size
  have hb := heap_alloc_new w' (.cells #[.slice A1 l.length c1, .bool false] 109)
  have hr2 : RdB (w'.alloc (.cells #[.slice A1 l.length c1, .bool false] 109)) A1 l.length c1 l := (own_rd hown).keep (F := []) ((Ch.refl _ _).alloc _) (by simp)
  rcases A1 with _ | a1
  · exact ⟨w'.heap.size, w'.heap.size, rfl, ⟨by simp, _, _, _, _, hb, by simp, rfl, hr2, by omega⟩, by omega, by omega, h2.alloc _⟩
  · have hge := own_ge hown a1.block rfl
    have hlt := own_lt hown a1.block rfl
    exact ⟨w'.heap.size, a1.block, rfl, ⟨by simp; omega, _, _, _, _, hb, by intro a ha; injection ha with ha; subst ha; exact ⟨rfl, by omega⟩, rfl, hr2, by omega⟩, by omega, by omega, h2.alloc _⟩

/-- What a reader's call that fails panics with. -/
def stop : List PanicEntry := [{ v := .iface 134 (.agg #[]), recovered := false }]

theorem must_yes (w : World) : Calls Try.prog 95 #[.bool true] w fun e w' => e = .returned (.tuple #[]) ∧ w = w' := by
  go_enter Try.func95, Try.ntmps95
  go_wp2
  go_end0
  exact ⟨rfl, rfl⟩
theorem must_no (w : World) : Calls Try.prog 95 #[.bool false] w fun e w' => e = .panicked stop ∧ w = w' := by
  go_enter Try.func95, Try.ntmps95
  go_wp2
  exact ⟨rfl, rfl, rfl⟩

end Go.Proofs.Ytbkncfedahifkaa
