/-
  What is cut off: the plain law of CodeCuts; Place; a writer beside a row of integers.
-/
import Derived.Test.YtbkncfedahifkaaRSteps
set_option linter.unusedVariables false
namespace Go.Proofs.Ytbkncfedahifkaa
open Go.RowKit

theorem decG_cut (n : Nat) : ∀ k acc m, m < (encN n).length → decG k acc ((encN n).take m) = none := by
  induction n using Nat.strongRecOn with
  | _ n ih =>
    intro k acc m hm
    cases m with
    | zero => rw [List.take_zero]; rfl
    | succ m =>
      by_cases h : n < 128
      · rw [encN_small h] at hm; simp at hm
      · rw [encN_big (by omega)] at hm ⊢
        rw [List.take_succ_cons, decG, u8_of _ (by omega)]
        split
        · rfl
        · rw [if_neg (by omega)]
          exact ih (n / 128) (by omega) _ _ m (by simpa using hm)
theorem decN_cut (n : Nat) (m : Nat) (h : m < (encN n).length) : decN ((encN n).take m) = none := decG_cut n 0 0 m h
theorem decT_cut (s r : List UInt8) (m : Nat) (hs : s.length < 18446744073709551616) (h : m < (encT s).length) : decT ((encT s ++ r).take m) = none := by
  rw [List.take_append_of_le_length (by omega)]
  unfold encT at h ⊢
  rw [List.length_append] at h
  by_cases hm : m < (encN s.length).length
  · rw [List.take_append_of_le_length (by omega), decT, decN_cut _ _ hm]
    rfl
  · rw [List.take_append, List.take_of_length_le (by omega), decT, decN_encN _ _ hs, Option.bind_some, if_neg]
    simp only [List.length_take]
    omega
theorem decT_whole (s r : List UInt8) (m : Nat) (hs : s.length < 18446744073709551616) (h : (encT s).length ≤ m) : decT ((encT s ++ r).take m) = some (s, r.take (m - (encT s).length)) := by
  rw [List.take_append, List.take_of_length_le h, decT_encT _ _ hs]

/-- Bytes of the first j texts. -/
def preL (l : List ByteArray) (j : Nat) : Nat := (encTs (byt (l.take j))).length
theorem byt_take (l : List ByteArray) (j : Nat) : byt (l.take j) = (byt l).take j := by simp [byt, List.map_take]
theorem byt_drop (l : List ByteArray) (j : Nat) : byt (l.drop j) = (byt l).drop j := by simp [byt, List.map_drop]
theorem encTs_snoc (l : List ByteArray) (j : Nat) (h : j < l.length) : encTs (byt (l.take (j + 1))) = encTs (byt (l.take j)) ++ encT l[j].data.toList := by
  rw [List.take_succ_eq_append_getElem h, byt, List.map_append, encTs, List.flatMap_append]
  simp [encTs, byt]
theorem encTs_drop (l : List ByteArray) (j : Nat) (h : j < l.length) : encTs (byt (l.drop j)) = encT l[j].data.toList ++ encTs (byt (l.drop (j + 1))) := by
  rw [List.drop_eq_getElem_cons h]
  rfl
theorem preL_succ (l : List ByteArray) (j : Nat) (h : j < l.length) : preL l (j + 1) = preL l j + (encT l[j].data.toList).length := by
  rw [preL, encTs_snoc l j h, List.length_append]; rfl
/-- The reader's state behind j texts, cut at K. -/
def cutSt (l : List ByteArray) (K j : Nat) : Option (List UInt8) := if preL l j ≤ K then some ((encTs (byt (l.drop j))).take (K - preL l j)) else none
theorem cut_yes (l : List ByteArray) (K j : Nat) (hj : j < l.length) (hs : l[j].size < 18446744073709551616) (h : preL l (j + 1) ≤ K) :
    (cutSt l K j).bind rText = some (.string l[j], (encTs (byt (l.drop (j + 1)))).take (K - preL l (j + 1))) := by
  have hp := preL_succ l j hj
  rw [cutSt, if_pos (by omega), Option.bind_some, encTs_drop l j hj, rText, decT_whole l[j].data.toList _ _ hs (by omega), Option.map_some, str_of, hp, Nat.sub_add_eq]
theorem cut_no (l : List ByteArray) (K j : Nat) (hj : j < l.length) (hs : l[j].size < 18446744073709551616) (h : ¬ preL l (j + 1) ≤ K) : (cutSt l K j).bind rText = none := by
  have hp := preL_succ l j hj
  unfold cutSt
  split
  · rw [Option.bind_some, encTs_drop l j hj, rText, decT_cut l[j].data.toList _ _ hs (by omega)]
    rfl
  · rfl
theorem cut_next (l : List ByteArray) (K j : Nat) (hj : j < l.length) (hs : l[j].size < 18446744073709551616) : ((cutSt l K j).bind rText).map (·.2) = cutSt l K (j + 1) := by
  by_cases h : preL l (j + 1) ≤ K
  · rw [cut_yes l K j hj hs h, cutSt, if_pos h]; rfl
  · rw [cut_no l K j hj hs h, cutSt, if_neg h]; rfl

/-- A cell of a slice that is read. -/
theorem rd_cell' {w : World} {A : Option Addr} {n c : Nat} {α : Type} {f : α → Value} {l : List α} (hr : Rd 1 w A n c (l.map f)) (k : Nat) (hk : k < l.length) :
    ∃ b o, A = some ⟨b, o, none⟩ ∧ w.cell? ⟨b, o + k, none⟩ = some (f l[k]) := by
  have hn : l.length = n := by have := hr.len; simpa using this
  obtain ⟨b, o, e, hc⟩ := hr.cells (by omega)
  exact ⟨b, o, e, hc k _ (by simp [hk])⟩

/-! ### Place -/
theorem place_any (a : Int) (n : Nat) (w : World) (h0 : -9223372036854775808 ≤ a) (h1 : a ≤ 9223372036854775807) (hn : 0 < n) (hm : n ≤ 1000000) :
    Calls Try.prog 40 #[.int .i64 a, .int .i64 (n : Int)] w fun e w' => e = .returned (.int .i64 (a % (n : Int))) ∧ w = w' := by
  have hz : (n : Int) ≠ 0 := by omega
  have hz1 : ¬ ((n : Int) = -1) := by omega
  have hr0 := Int.emod_nonneg a hz
  have hr1 := Int.emod_lt_of_pos a (show (0 : Int) < n by omega)
  by_cases ha : 0 ≤ a
  · have e1 : a.tmod n = a % n := Int.tmod_eq_emod_of_nonneg ha
    generalize hm : a % (n : Int) = m at *
    clear hm
    go_enter Try.func40, Try.ntmps40
    go_wp2
    go_ret
    exact ⟨rfl, rfl⟩
  · have e1 : a.tmod n = -((-a) % n) := by
      rw [← Int.tmod_eq_emod_of_nonneg (show 0 ≤ -a by omega), Int.neg_tmod, Int.neg_neg]
    have h2 := Int.emod_nonneg (-a) hz
    have h3 := Int.emod_lt_of_pos (-a) (show (0 : Int) < n by omega)
    have e2 : a % n = (-((-a) % n)) % n := by
      rw [← e1]
      have := Int.mul_tdiv_add_tmod a n
      conv => lhs; rw [← this]
      rw [Int.add_comm, Int.add_mul_emod_self_left]
    by_cases h4 : (-a) % (n : Int) = 0
    · rw [h4] at e1 e2
      simp only [Int.neg_zero, Int.zero_emod] at e1 e2
      rw [e2]
      clear e2 h2 h3 h4 hr0 hr1
      go_enter Try.func40, Try.ntmps40
      go_wp2
      go_ret
      exact ⟨rfl, rfl⟩
    · have e3 : a % n = -((-a) % n) + n := by
        rw [e2, ← Int.add_emod_right, Int.emod_eq_of_lt (by omega) (by omega)]
      rw [e3]
      generalize hm : (-a) % (n : Int) = m at *
      clear hm e2 e3 hr0 hr1
      have h5 : -m < 0 := by omega
      go_enter Try.func40, Try.ntmps40
      go_wp2
      go_ret
      exact ⟨rfl, rfl⟩

/-! ### a writer beside a row of integers -/
def CE (w0 cur : World) (b : Nat) (v : Value) (L : List UInt8) (xs : List Value) : Prop :=
  ∃ o, IsWr cur b o L ∧ cur.ownsRow w0.heap.size 3 1 v xs.length xs ∧ Ch [] w0 cur ∧ w0.heap.size ≤ b ∧ (∀ k, o = some k → w0.heap.size ≤ k) ∧ (∀ k, o = some k → v.ownBlock ≠ some k) ∧ v.ownBlock ≠ some b
section
variable {w0 cur : World} {b : Nat} {v : Value} {L : List UInt8} {xs : List Value}
theorem CE.ch (h : CE w0 cur b v L xs) : Ch [] w0 cur := by obtain ⟨_, _, _, h4, _⟩ := h; exact h4
theorem CE.own (h : CE w0 cur b v L xs) : cur.ownsRow w0.heap.size 3 1 v xs.length xs := by obtain ⟨_, _, h4, _⟩ := h; exact h4
theorem CE.nil {cur' : World} (h : CE w0 cur b v L xs) (hc : Ch [] cur cur') : CE w0 cur' b v L xs := by
  obtain ⟨o, h1, h2, h4, h5, h6, h8, h9⟩ := h
  exact ⟨o, h1.keep hc (by simp) (by simp), own_keep h2 hc (by simp), h4.trans hc (by simp), h5, h6, h8, h9⟩
theorem CE.wst (h : CE w0 cur b v L xs) : ∃ o, IsWr cur b o L ∧ ∀ W w' L', Ch [] cur W → WSt W b o L' w' → CE w0 w' b v L' xs := by
  obtain ⟨o, h1, h2, h4, h5, h6, h8, h9⟩ := h
  refine ⟨o, h1, ?_⟩
  rintro W w' L' hW ⟨o', q1, q2, q3⟩
  have hs := h4.size
  have hsW := hW.size
  have q2' : ∀ k, o' = some k → o = some k ∨ W.heap.size ≤ k := by
    intro k hk
    rcases q2 with e | ⟨k', e, hk'⟩
    · left; rw [← e, hk]
    · right; rw [hk] at e; injection e with e; omega
  have hol : ∀ k, v.ownBlock = some k → k < cur.heap.size := own_lt h2
  refine ⟨o', q1, own_keep (own_keep h2 hW (by simp)) q3 ?_, (h4.trans hW (by simp)).trans q3 ?_, h5, ?_, ?_, h9⟩
  · intro k hk hk2
    simp only [List.mem_cons, Option.mem_toList] at hk2
    rcases hk2 with rfl | hk2
    · exact h9 hk
    · exact h8 k hk2 hk
  · intro x hx
    simp only [List.mem_cons, Option.mem_toList] at hx
    rcases hx with rfl | hx
    · exact .inr h5
    · exact .inr (h6 x hx)
  · intro k hk
    rcases q2' k hk with e | e
    · exact h6 k e
    · omega
  · intro k hk e
    have := hol k e
    rcases q2' k hk with e' | e'
    · exact h8 k e' e
    · omega
theorem CE.grow {w1 : World} {v1 : Value} {n : Nat} {y : Value} (h : CE w0 cur b v L xs) (hn : n = xs.length) (h1 : w1.ownsRow w0.heap.size 3 1 v1 (n + 1) (xs ++ [y])) (hg : cur.grownBy w1 v.ownBlock) (hat : v1.ownBlock = v.ownBlock ∨ ∃ k, v1.ownBlock = some k ∧ cur.heap.size ≤ k) :
    CE w0 w1 b v1 L (xs ++ [y]) := by
  subst hn
  obtain ⟨o, q1, q2, h4, h5, h6, h8, h9⟩ := h
  have hc : Ch v.ownBlock.toList cur w1 := (Ch.refl _ _).grown hg (fun k hk => .inl (by simp [hk]))
  have hbl := q1.lt
  refine ⟨o, q1.keep hc (by simpa using h9) (by intro k hk; simpa using h8 k hk), by rw [List.length_append]; exact h1, h4.trans hc ?_, h5, h6, ?_, ?_⟩
  · intro x hx
    exact .inr (own_ge q2 x (by simpa using hx))
  · intro k hk e
    have := q1.olt k hk
    rcases hat with hat | ⟨k', hat, hk'⟩
    · exact h8 k hk (by rw [← hat, e])
    · rw [e] at hat; injection hat with hat; omega
  · intro e
    rcases hat with hat | ⟨k', hat, hk'⟩
    · exact h9 (by rw [← hat, e])
    · rw [e] at hat; injection hat with hat; omega
theorem CE.start {w0 cur : World} {b : Nat} (h : IsWr cur b none []) (hc : Ch [] w0 cur) (hb : w0.heap.size ≤ b) : CE w0 cur b (.slice none 0 0) [] [] :=
  ⟨none, h, World.ownsRow_nil _ _ _ _, hc, hb, by simp, by simp, by simp [Value.ownBlock]⟩
end
theorem Try.info3 : (Try.prog.info? 3).map (fun i => (i.zero, i.size, i.bytes)) = some (some (.int .i64 0), 1, 8) := by kernel_rfl

end Go.Proofs.Ytbkncfedahifkaa
