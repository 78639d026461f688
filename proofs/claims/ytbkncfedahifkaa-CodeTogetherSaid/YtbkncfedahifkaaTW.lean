/-
  Two writers side by side.
-/
import Derived.Test.YtbkncfedahifkaaWB
set_option linter.unusedVariables false
namespace Go.Proofs.Ytbkncfedahifkaa
open Go.RowKit

/-- Two writers of one's own, apart. -/
structure TWs (w0 cur : World) (p q : Nat) (o o2 : Option Nat) (L M : List UInt8) : Prop where
  wp : IsWr cur p o L
  wq : IsWr cur q o2 M
  ch : Ch [] w0 cur
  hp : w0.heap.size ≤ p
  hq : w0.heap.size ≤ q
  pq : p ≠ q
  ho : ∀ k, o = some k → w0.heap.size ≤ k
  ho2 : ∀ k, o2 = some k → w0.heap.size ≤ k
  oo : ∀ k, o = some k → o2 ≠ some k
  oq : o ≠ some q
  o2p : o2 ≠ some p
def TW (w0 cur : World) (p q : Nat) (L M : List UInt8) : Prop := ∃ o o2, TWs w0 cur p q o o2 L M
section
variable {w0 cur : World} {p q : Nat} {L M : List UInt8}
theorem TW.symm (h : TW w0 cur p q L M) : TW w0 cur q p M L := by
  obtain ⟨o, o2, h⟩ := h
  exact ⟨o2, o, h.wq, h.wp, h.ch, h.hq, h.hp, h.pq.symm, h.ho2, h.ho, fun k hk e => h.oo k e hk, h.o2p, h.oq⟩
theorem TW.ch (h : TW w0 cur p q L M) : Ch [] w0 cur := by obtain ⟨o, o2, h⟩ := h; exact h.ch
theorem TW.nil {cur' : World} (h : TW w0 cur p q L M) (hc : Ch [] cur cur') : TW w0 cur' p q L M := by
  obtain ⟨o, o2, h⟩ := h
  exact ⟨o, o2, { h with wp := h.wp.keep hc (by simp) (by simp), wq := h.wq.keep hc (by simp) (by simp), ch := h.ch.trans hc (by simp) }⟩
theorem TW.old {w : World} {A : Option Addr} {n c : Nat} {xs : List Value} (h : TW w0 cur p q L M) (hr : Rd 1 w A n c xs) (hw : Ch [] w w0) {o : Option Nat} (ho : ∀ k, o = some k → w0.heap.size ≤ k) : 0 < n → ∀ a, A = some a → a.block ≠ p ∧ o ≠ some a.block := by
  intro hn a ha
  subst ha
  obtain ⟨b, of, e, hc⟩ := hr.cells hn
  injection e with e
  subst e
  have hl := hr.len
  have hx : xs[0]? = some (xs[0]'(by omega)) := List.getElem?_eq_getElem (by omega)
  have hlt := World.block_lt_of_cell? w _ (hc 0 _ hx)
  have hs := hw.size
  simp only at hlt ⊢
  obtain ⟨o1, o2, h⟩ := h
  have hp := h.hp
  refine ⟨by omega, fun e => ?_⟩
  have := ho b e
  omega
/-- Of the first writer. -/
theorem TW.fst (h : TW w0 cur p q L M) : ∃ o, IsWr cur p o L ∧ (∀ k, o = some k → w0.heap.size ≤ k) ∧ ∀ W w' L', Ch [] cur W → WSt W p o L' w' → TW w0 w' p q L' M := by
  obtain ⟨o, o2, h⟩ := h
  refine ⟨o, h.wp, h.ho, ?_⟩
  rintro W w' L' hW ⟨o', q1, q2, q3⟩
  have hs := h.ch.size
  have hsW := hW.size
  have hql := h.wq.lt
  have hpl := h.wp.lt
  have q2' : ∀ k, o' = some k → o = some k ∨ W.heap.size ≤ k := by
    intro k hk
    rcases q2 with e | ⟨k', e, hk'⟩
    · left; rw [← e, hk]
    · right; rw [hk] at e; injection e with e; omega
  have hol := h.wq.olt
  refine ⟨o', o2, q1, (h.wq.keep hW (by simp) (by simp)).keep q3 ?_ ?_, (h.ch.trans hW (by simp)).trans q3 ?_, h.hp, h.hq, h.pq, ?_, h.ho2, ?_, ?_, h.o2p⟩
  · intro hk
    simp only [List.mem_cons, Option.mem_toList] at hk
    rcases hk with e | hk
    · exact h.pq e.symm
    · exact h.oq hk
  · intro k hk hk2
    simp only [List.mem_cons, Option.mem_toList] at hk2
    rcases hk2 with rfl | hk2
    · exact h.o2p hk
    · exact h.oo k hk2 hk
  · intro x hx
    simp only [List.mem_cons, Option.mem_toList] at hx
    rcases hx with rfl | hx
    · exact .inr h.hp
    · exact .inr (h.ho x hx)
  · intro k hk
    rcases q2' k hk with e | e
    · exact h.ho k e
    · omega
  · intro k hk e
    have := hol k e
    rcases q2' k hk with e' | e'
    · exact h.oo k e' e
    · omega
  · intro hk
    rcases q2' q hk with e' | e'
    · exact h.oq e'
    · omega
theorem TW.start {w0 cur : World} {p q : Nat} (h : IsWr cur p none []) (h2 : IsWr cur q none []) (hc : Ch [] w0 cur) (hp : w0.heap.size ≤ p) (hq : w0.heap.size ≤ q) (hpq : p ≠ q) : TW w0 cur p q [] [] :=
  ⟨none, none, h, h2, hc, hp, hq, hpq, by simp, by simp, by simp, by simp, by simp⟩
end

/-- A cell of a slice that is read. -/
theorem rd_cell {w : World} {A : Option Addr} {n c : Nat} {α : Type} {f : α → Value} {l : List α} (hr : Rd 1 w A n c (l.map f)) (k : Nat) (hk : k < l.length) :
    ∃ b o, A = some ⟨b, o, none⟩ ∧ w.cell? ⟨b, o + k, none⟩ = some (f l[k]) := by
  have hn : l.length = n := by have := hr.len; simpa using this
  obtain ⟨b, o, e, hc⟩ := hr.cells (by omega)
  exact ⟨b, o, e, hc k _ (by simp [hk])⟩

end Go.Proofs.Ytbkncfedahifkaa
