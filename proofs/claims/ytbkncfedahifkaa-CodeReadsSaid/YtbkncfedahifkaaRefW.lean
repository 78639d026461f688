/-
  The references of layer 1: Num, Int, Text, Bool write onto a slice that is handed in and out.
-/
import Derived.Test.YtbkncfedahifkaaWText
import Derived.ArgAppend
set_option linter.unusedVariables false
namespace Go.Proofs.Ytbkncfedahifkaa
open Go.RowKit

/-- A slice of bytes that is appended to: one's own (its bytes in block o), or one that is full. -/
def BSl (w : World) (v : Value) (o : Option Nat) (l : List UInt8) : Prop :=
  (w.ownsRow 0 5 1 v l.length (bvs l) ∧ v.ownBlock = o) ∨ (o = none ∧ ∃ A, v = .slice A l.length l.length ∧ RdB w A l.length l.length l)
/-- What an append leaves: one's own. -/
def SlSt (w0 : World) (o : Option Nat) (l : List UInt8) (w : World) (v : Value) : Prop :=
  ∃ o', w.ownsRow 0 5 1 v l.length (bvs l) ∧ v.ownBlock = o' ∧ (∀ k, o' = some k → o = some k ∨ w0.heap.size ≤ k) ∧ Ch o.toList w0 w

theorem BSl.alloc {w : World} {v : Value} {o : Option Nat} {l : List UInt8} (h : BSl w v o l) (x : Obj) : BSl (w.alloc x) v o l := by
  rcases h with ⟨h1, h2⟩ | ⟨h1, A, h2, h3⟩
  · exact .inl ⟨h1.alloc x, h2⟩
  · exact .inr ⟨h1, A, h2, h3.keep (F := []) ((Ch.refl _ _).alloc _) (by simp)⟩

section
variable {P : Program} {ops : Array Oper} {rest : List Oper} {o : Oper} {a : Act} {Q : Exit → Act → World → Prop}
/-- append(b, c) of one byte. -/
theorem app_bsl {W : World} (hgd : o.guard = none) (s x : Operand) (t e : TypeId)
    (ho : o.op = .call { callee := .builtin .append, args := #[s, x], argTypes := #[t, t] })
    (ht : P.underlying t = some (.slice e)) (he : e = 5) (hinfo : (P.info? e).map (fun i => (i.zero, i.size, i.bytes)) = some (some (.int .u8 0), 1, 1))
    (v : Value) (ob : Option Nat) (l : List UInt8) (z : Int) (hs : a.eval s = v) (hx : a.eval x = .slice (some ⟨W.heap.size, 0, none⟩) 1 1)
    (HO : BSl W v ob l) (hl : l.length + 1 ≤ 140737488355328)
    (h : ∀ v1 w1, w1.ownsRow 0 5 1 v1 (l.length + 1) (bvs l ++ [.int .u8 z]) → W.grownBy w1 ob → (v1.ownBlock = ob ∨ ∃ k, v1.ownBlock = some k ∧ W.heap.size ≤ k) → wpList P ops Q rest (a.put o.dst v1) w1) :
    wpList P ops Q (o :: rest) a (W.alloc (.cells #[.int .u8 z] e)) := by
  subst he
  rcases HO with ⟨h1, rfl⟩ | ⟨rfl, A, rfl, h3⟩
  · exact app_one hgd s x t 5 (.int .u8 0) 1 ho ht hinfo rfl v l.length (bvs l) _ hs hx rfl h1 (Nat.zero_le _) (by omega) (by unfold maxLen; omega) h
  · obtain ⟨i0, hi, hzz⟩ := Option.map_eq_some_iff.1 hinfo
    simp only [Prod.mk.injEq] at hzz
    obtain ⟨hz0, hz1, hz2⟩ := hzz
    have hr := h3.keep (F := []) ((Ch.refl _ _).alloc (.cells #[.int .u8 z] 5)) (by simp)
    rcases A with _ | ad
    · have h0 : l = [] := by
        rcases Nat.eq_zero_or_pos l.length with h | h
        · exact List.eq_nil_of_length_eq_zero h
        · obtain ⟨_, _, e, _⟩ := h3.cells h
          cases e
      subst h0
      refine app_one hgd s x t 5 (.int .u8 0) 1 ho ht hinfo rfl (.slice none 0 0) 0 [] _ hs hx rfl (World.ownsRow_nil W 0 _ _) (Nat.zero_le _) (by omega) (by simp [maxLen]) ?_
      intro v1 w1 q1 q2 q3
      exact h v1 w1 q1 q2 q3
    · refine wpList_append_grows (W.alloc (.cells #[.int .u8 z] 5)) hgd s x t ho 5 i0 (.int .u8 0) 1 1 ht hi hz0 hz1 hz2 rfl (by decide) (some ad) l.length l.length (bvs l) hs (by simp) (by simp [bvs]) ?_ ⟨W.heap.size, 0, none⟩ 1 1 [.int .u8 z] hx rfl
        (cell_one_new W _ _) (by simp [Value.oneCell']) (by omega) (by unfold maxLen; omega) (by omega) ?_
      · intro b hb j u hu
        injection hb with hb
        subst hb
        have hj : j < l.length := by
          rcases Nat.lt_or_ge j l.length with h | h
          · exact h
          · simp [bvs, List.getElem?_eq_none h] at hu
        obtain ⟨b', o', e, hc⟩ := hr.cells (by omega)
        injection e with e
        subst e
        rw [Addr.add_lit]
        exact hc j u hu
      · intro v1 w1 q1 q2
        refine h v1 w1 (own_rebase q1 (by intro k _; omega)) (World.grownBy.trans (World.grownBy_alloc W _ _) q2) ?_
        obtain ⟨A1, c1, rfl⟩ := own_slice q1
        rcases A1 with _ | a1
        · rcases q1.2 with ⟨_, h'⟩ | ⟨g, cap, cur, h', _⟩
          · omega
          · simp at h'
        · have := own_ge q1 a1.block rfl
          exact .inr ⟨a1.block, rfl, by simpa using Nat.le_of_succ_le (by simpa using this)⟩
end

end Go.Proofs.Ytbkncfedahifkaa
