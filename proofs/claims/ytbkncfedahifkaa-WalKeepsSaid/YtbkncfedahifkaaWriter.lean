/-
  Package code, the writer: contracts of NewWriter and Num.
-/
import Derived.Test.YtbkncfedahifkaaBase
import Derived.Test.YtbkncfedahifkaaCodeSpec
namespace Go.Proofs.Ytbkncfedahifkaa
open Go.RowKit

/-- A writer at block b, its bytes in block o, if any. -/
def IsWr (w : World) (b : Nat) (o : Option Nat) (l : List UInt8) : Prop :=
  ∃ v, w.heap[b]? = some (.cells #[v] 105 (0, 0)) ∧ w.ownsRow 0 5 1 v l.length (bvs l) ∧ v.ownBlock = o

/-- The writer behind a call: its bytes lie where they lay, or in new memory. -/
def WSt (w0 : World) (b : Nat) (o : Option Nat) (l : List UInt8) (w : World) : Prop :=
  ∃ o', IsWr w b o' l ∧ (o' = o ∨ ∃ k, o' = some k ∧ w0.heap.size ≤ k) ∧ Ch (b :: o.toList) w0 w

theorem IsWr.lt {w : World} {b : Nat} {o : Option Nat} {l : List UInt8} (h : IsWr w b o l) : b < w.heap.size := by
  obtain ⟨v, hb, _, _⟩ := h
  exact lt_of_at hb
theorem IsWr.olt {w : World} {b : Nat} {o : Option Nat} {l : List UInt8} (h : IsWr w b o l) : ∀ k, o = some k → k < w.heap.size := by
  obtain ⟨v, hb, ho, rfl⟩ := h
  exact own_lt ho
theorem IsWr.keep {w w' : World} {b : Nat} {o : Option Nat} {l : List UInt8} {F : List Nat} (h : IsWr w b o l) (hc : Ch F w w') (hb : b ∉ F) (ho : ∀ k, o = some k → k ∉ F) : IsWr w' b o l := by
  obtain ⟨v, h1, h2, rfl⟩ := h
  exact ⟨v, hc.at_ h1 hb, own_keep h2 hc ho, rfl⟩
theorem IsWr.alloc {w : World} {b : Nat} {o : Option Nat} {l : List UInt8} (h : IsWr w b o l) (x : Obj) : IsWr (w.alloc x) b o l :=
  h.keep (F := []) ((Ch.refl _ _).alloc x) (by simp) (by simp)
theorem WSt.start {w : World} {b : Nat} {o : Option Nat} {l : List UInt8} (h : IsWr w b o l) : WSt w b o l w := ⟨o, h, .inl rfl, Ch.refl _ _⟩
theorem WSt.alloc {w0 w : World} {b : Nat} {o : Option Nat} {l : List UInt8} (h : WSt w0 b o l w) (x : Obj) : WSt w0 b o l (w.alloc x) := by
  obtain ⟨o', h1, h2, h3⟩ := h
  exact ⟨o', h1.alloc x, h2, h3.alloc x⟩

/-- What an append to the writer's bytes, and the store of what it gives, leave. -/
theorem WSt.put {w0 w w1 : World} {b : Nat} {o o' : Option Nat} {l l2 : List UInt8} {v v1 : Value} (hb : w.heap[b]? = some (.cells #[v] 105 (0, 0))) (hv : v.ownBlock = o') (ho : o' = o ∨ ∃ k, o' = some k ∧ w0.heap.size ≤ k) (hown : w.ownsRow 0 5 1 v l.length (bvs l)) (hc : Ch (b :: o.toList) w0 w)
    (h1 : w1.ownsRow 0 5 1 v1 l2.length (bvs l2)) (hg : w.grownBy w1 v.ownBlock) (hat : v1.ownBlock = v.ownBlock ∨ ∃ k, v1.ownBlock = some k ∧ w.heap.size ≤ k) (hs : w0.heap.size ≤ w.heap.size) :
    WSt w0 b o l2 (w1.setCell ⟨b, 0, none⟩ v1) := by
  subst hv
  have hne : some b ≠ v.ownBlock := by
    intro e
    rcases hown.2 with ⟨rfl, _⟩ | ⟨g, cap, cur, rfl, _, hh, _⟩
    · simp [Value.ownBlock] at e
    · simp only [Value.ownBlock, Option.some.injEq] at e
      subst e
      rw [hh] at hb
      simp at hb
  have hb1 : w1.heap[b]? = some (.cells #[v] 105 (0, 0)) := (hg.block b (lt_of_at hb) hne).trans hb
  have hne1 : some b ≠ v1.ownBlock := by
    intro e
    rcases h1.2 with ⟨rfl, _⟩ | ⟨g, cap, cur, rfl, _, hh, _⟩
    · simp [Value.ownBlock] at e
    · simp only [Value.ownBlock, Option.some.injEq] at e
      subst e
      rw [hh] at hb1
      simp at hb1
  have hc1 : Ch (b :: o.toList) w0 w1 := hc.grown hg (by
    intro k hk
    rcases ho with ho | ⟨k', ho, hk'⟩
    · left; rw [hk] at ho; simp [← ho]
    · right; rw [hk] at ho; injection ho with ho; omega)
  have hset : Ch [b] w1 (w1.setCell ⟨b, 0, none⟩ v1) := (Ch.refl _ _).setCell _ _ (by simp)
  refine ⟨v1.ownBlock, ⟨v1, ?_, own_keep h1 hset (by intro k hk; rw [hk] at hne1; simpa using fun e => hne1 (by rw [e])), rfl⟩, ?_, hc1.setCell _ _ (by simp)⟩
  · have := heap_setCell_same w1 b 0 #[v] 105 v1 hb1
    simpa using this
  · rcases hat with hat | ⟨k, hat, hk⟩
    · rw [hat]; exact ho
    · exact .inr ⟨k, hat, by omega⟩

/-- A call on a writer that a call has left. -/
theorem WSt.then {w0 w1 : World} {b : Nat} {o : Option Nat} {l : List UInt8} (h : WSt w0 b o l w1) :
    ∃ o', IsWr w1 b o' l ∧ (∀ k, o' = some k → o = some k ∨ w0.heap.size ≤ k) ∧ Ch (b :: o.toList) w0 w1 ∧ ∀ W, Ch [] w1 W → ∀ l2 w2, WSt W b o' l2 w2 → WSt w0 b o l2 w2 := by
  obtain ⟨o', h1, h2, h3⟩ := h
  refine ⟨o', h1, ?_, h3, ?_⟩
  · intro k hk
    rcases h2 with h2 | ⟨k', h2, hk'⟩
    · left; rw [← h2, hk]
    · right; rw [hk] at h2; injection h2 with h2; omega
  · intro W hW l2 w2 ⟨o2, q1, q2, q3⟩
    have hs := hW.size
    have hs3 := h3.size
    refine ⟨o2, q1, ?_, (h3.trans hW (by simp)).trans q3 ?_⟩
    · rcases q2 with rfl | ⟨k, q2, hk⟩
      · exact h2
      · exact .inr ⟨k, q2, by omega⟩
    · intro x hx
      simp only [List.mem_cons, Option.mem_toList] at hx ⊢
      rcases hx with rfl | hx
      · exact .inl (.inl rfl)
      · rcases h2 with rfl | ⟨k', h2, hk'⟩
        · exact .inl (.inr hx)
        · right; rw [h2] at hx; injection hx with hx; omega
theorem IsWr.b_ne {w : World} {b : Nat} {o : Option Nat} {l : List UInt8} (h : IsWr w b o l) : o ≠ some b := by
  obtain ⟨v, hb, hown, rfl⟩ := h
  intro e
  rcases hown.2 with ⟨rfl, _⟩ | ⟨g, cap, cur, rfl, _, hh, _⟩
  · simp [Value.ownBlock] at e
  · simp only [Value.ownBlock, Option.some.injEq] at e
    subst e
    rw [hh] at hb
    simp at hb

/-- A variadic's box of one. -/
theorem rd_one (W : World) (v : Value) (t : TypeId) : Rd 1 (W.alloc (.cells #[v] t)) (some ⟨W.heap.size, 0, none⟩) 1 1 [v] :=
  own_rd (World.ownsRow_lit (base := 0) W #[v] 1 (Nat.zero_le _) (by simp [maxLen]) rfl)
theorem IsWr.fresh {w : World} {b : Nat} {o : Option Nat} {l : List UInt8} (h : IsWr w b o l) : ∀ a : Addr, some (⟨w.heap.size, 0, none⟩ : Addr) = some a → a.block ≠ b ∧ o ≠ some a.block := by
  intro a ha
  injection ha with ha
  subst ha
  refine ⟨fun e => ?_, fun e => ?_⟩
  · have := h.lt
    simp only at e
    omega
  · have := h.olt _ e
    simp only at this
    omega

/-- The writer's own block behind an append to its bytes. -/
theorem wr_there {w w1 : World} {b n : Nat} {v : Value} {xs : List Value} (hb : w.heap[b]? = some (.cells #[v] 105 (0, 0))) (hown : w.ownsRow 0 5 1 v n xs) (hg : w.grownBy w1 v.ownBlock) : w1.heap[b]? = some (.cells #[v] 105 (0, 0)) := by
  have hne : some b ≠ v.ownBlock := by
    intro e
    rcases hown.2 with ⟨rfl, _⟩ | ⟨g, cap, cur, rfl, _, hh, _⟩
    · simp [Value.ownBlock] at e
    · simp only [Value.ownBlock, Option.some.injEq] at e
      subst e
      rw [hh] at hb
      simp at hb
  exact (hg.block b (lt_of_at hb) hne).trans hb

theorem Try.info5 : (Try.prog.info? 5).map (fun i => (i.zero, i.size, i.bytes)) = some (some (.int .u8 0), 1, 1) := by kernel_rfl

theorem new_writer (w : World) : Calls Try.prog 19 #[] w fun e w' => e = .returned (.pointer (some ⟨w.heap.size, 0, none⟩)) ∧ w' = w.alloc (.cells #[.slice none 0 0] 105) := by
  go_enter Try.func19, Try.ntmps19
  go_wp2
  go_ret
  exact ⟨rfl, rfl⟩

end Go.Proofs.Ytbkncfedahifkaa
