/-
  The statements of layer 2: l2; a writer and a slice side by side.
-/
import Derived.Test.YtbkncfedahifkaaPut
import Derived.Test.YtbkncfedahifkaaWText
set_option linter.unusedVariables false
namespace Go.Proofs.Ytbkncfedahifkaa
open Go.RowKit

theorem Try.info9 : (Try.prog.info? 9).map (fun i => (i.zero, i.size, i.bytes)) = some (some (.string ⟨#[]⟩), 1, 16) := by kernel_rfl

theorem strs_take_succ (l : List PartL) (k : Nat) (h : k < l.length) : strs ((l.take (k + 1)).map (·.t)) = strs ((l.take k).map (·.t)) ++ [.string l[k].t] := by
  rw [List.take_succ_eq_append_getElem h, List.map_append, strs, List.map_append]
  rfl

/-- The three cells of a part. -/
theorem part_cells {w : World} {A : Option Addr} {n c : Nat} {l : List PartL} (hr : Rd 3 w A n c (partCells l)) (k : Nat) (hk : k < l.length) :
    ∃ b o, A = some ⟨b, o, none⟩ ∧ w.cell? ⟨b, o + k * 3, none⟩ = some (.int .u8 (l[k].what : Int)) ∧ w.cell? ⟨b, o + k * 3 + 1, none⟩ = some (.int .u64 (l[k].n : Int)) ∧ w.cell? ⟨b, o + k * 3 + 2, none⟩ = some (.string l[k].t) := by
  have hn : l.length = n := by have := hr.len; rw [partCells_length] at this; omega
  obtain ⟨b, o, e, hc⟩ := hr.cells (by omega)
  refine ⟨b, o, e, ?_, ?_, ?_⟩
  · exact hc (k * 3) _ ((partCells_get l k hk 0 (by omega)).trans rfl)
  · have := hc (k * 3 + 1) (.int .u64 (l[k].n : Int)) (by rw [partCells_get l k hk 1 (by omega)]; rfl)
    rwa [← Nat.add_assoc] at this
  · have := hc (k * 3 + 2) (.string l[k].t) (by rw [partCells_get l k hk 2 (by omega)]; rfl)
    rwa [← Nat.add_assoc] at this

set_option maxRecDepth 100000 in
set_option maxHeartbeats 800000 in
theorem l2_any (A : Option Addr) (n c : Nat) (l : List PartL) (w : World) (hr : Rd 3 w A n c (partCells l)) (hm : n ≤ 1000) :
    Calls Try.prog 31 #[.slice A n c] w fun e w' => ∃ v, e = .returned v ∧ w'.ownsRow w.heap.size 9 1 v n (strs (l.map (·.t))) ∧ Ch [] w w' := by
  have hn : l.length = n := by have := hr.len; rw [partCells_length] at this; omega
  go_enter Try.func31, Try.ntmps31
  go_wp2
  go_loopw [3, 4] (fun v i wr => ∃ k : Nat, k ≤ n ∧ i = .int .i64 k ∧ wr.ownsRow w.heap.size 9 1 v k (strs ((l.take k).map (·.t))) ∧ Ch [] w wr) (fun _ i _ => n - (intOf i).toNat)
  case atStart => exact ⟨0, Nat.zero_le _, rfl, World.ownsRow_nil _ _ _ _, Ch.refl _ _⟩
  case round =>
    rename_i wr u0 u1
    obtain ⟨k, hk, rfl, hown, hch⟩ := hrel
    by_cases hlt : k < n
    · have hk' : k < l.length := by omega
      obtain ⟨ab, ao, rfl, -, -, hx⟩ := part_cells (hr.nil hch) k hk'
      have hs := hch.size
      go_wp2_with (at_builtin; refine app_one rfl (.tmp 11) (.tmp 17) 44 9 (.string ⟨#[]⟩) 16 rfl Try.underlying44 Try.info9 rfl _ _ _ _ rfl rfl rfl hown hs (by omega) (by unfold maxLen; omega) ?_; intro v1 w1 h1 hg hat)
      go_roundw
      case rel =>
        refine ⟨k + 1, by omega, by go_num, ?_, hch.grown hg (fun k hk => .inr (own_ge hown k hk))⟩
        rw [strs_take_succ l k hk']
        exact h1
      case measure => simp [intOf]; omega
    · have e : k = n := by omega
      subst e
      rw [List.take_of_length_le (by omega)] at hown
      go_wp2
      go_ret
      exact ⟨_, rfl, hown, hch⟩

/-- A writer at b, and a slice v, each with its bytes, one's own, and apart. -/
def CW (w0 cur : World) (b : Nat) (v : Value) (L M : List UInt8) : Prop :=
  ∃ o o2, IsWr cur b o L ∧ cur.ownsRow 0 5 1 v M.length (bvs M) ∧ v.ownBlock = o2 ∧ Ch [] w0 cur ∧ w0.heap.size ≤ b ∧ (∀ k, o = some k → w0.heap.size ≤ k) ∧ (∀ k, o2 = some k → w0.heap.size ≤ k) ∧ (∀ k, o = some k → o2 ≠ some k) ∧ o2 ≠ some b
section
variable {w0 cur : World} {b : Nat} {v : Value} {L M : List UInt8}
theorem CW.ch (h : CW w0 cur b v L M) : Ch [] w0 cur := by obtain ⟨_, _, _, _, _, h4, _⟩ := h; exact h4
theorem CW.nil {cur' : World} (h : CW w0 cur b v L M) (hc : Ch [] cur cur') : CW w0 cur' b v L M := by
  obtain ⟨o, o2, h1, h2, h3, h4, h5, h6, h7, h8, h9⟩ := h
  exact ⟨o, o2, h1.keep hc (by simp) (by simp), own_keep h2 hc (by simp), h3, h4.trans hc (by simp), h5, h6, h7, h8, h9⟩
theorem CW.bsl (h : CW w0 cur b v L M) : ∃ o2, BSl cur v o2 M ∧ ∀ w' v' M', SlSt cur o2 M' w' v' → CW w0 w' b v' L M' := by
  obtain ⟨o, o2, h1, h2, h3, h4, h5, h6, h7, h8, h9⟩ := h
  refine ⟨o2, .inl ⟨h2, h3⟩, ?_⟩
  rintro w' v' M' ⟨o', q1, q2, q3, q4⟩
  have hs := h4.size
  have hbl := h1.lt
  refine ⟨o, o', h1.keep q4 ?_ ?_, q1, q2, h4.trans q4 ?_, h5, h6, ?_, ?_, ?_⟩
  · intro hb; exact h9 (by simpa using hb)
  · intro k hk hk2; exact h8 k hk (by simpa using hk2)
  · intro x hx; exact .inr (h7 x (by simpa using hx))
  · intro k hk
    rcases q3 k hk with e | e
    · exact h7 k e
    · omega
  · rintro k hk e
    have := h1.olt k hk
    rcases q3 k e with e' | e'
    · exact h8 k hk e'
    · omega
  · intro e
    rcases q3 b e with e' | e'
    · exact h9 e'
    · omega
theorem CW.wst (h : CW w0 cur b v L M) : ∃ o, IsWr cur b o L ∧ ∀ W w' L', Ch [] cur W → WSt W b o L' w' → CW w0 w' b v L' M := by
  obtain ⟨o, o2, h1, h2, h3, h4, h5, h6, h7, h8, h9⟩ := h
  refine ⟨o, h1, ?_⟩
  rintro W w' L' hW ⟨o', q1, q2, q3⟩
  have hs := h4.size
  have hsW := hW.size
  have q2' : ∀ k, o' = some k → o = some k ∨ W.heap.size ≤ k := by
    intro k hk
    rcases q2 with e | ⟨k', e, hk'⟩
    · left; rw [← e, hk]
    · right; rw [hk] at e; injection e with e; omega
  have hol : ∀ k, o2 = some k → k < cur.heap.size := by intro k hk; subst h3; exact own_lt h2 k hk
  refine ⟨o', o2, q1, own_keep (own_keep h2 hW (by simp)) q3 ?_, h3, (h4.trans hW (by simp)).trans q3 ?_, h5, ?_, h7, ?_, h9⟩
  · intro k hk hk2
    rw [h3] at hk
    simp only [List.mem_cons, Option.mem_toList] at hk2
    rcases hk2 with rfl | hk2
    · exact h9 hk
    · exact h8 k hk2 hk
  · intro x hx
    simp only [List.mem_cons, Option.mem_toList] at hx
    rcases hx with rfl | hx
    · exact .inr h5
    · exact .inr (h6 x hx)
  · intro k hk
    rcases q2' k hk with e | e
    · exact h6 k e
    · omega
  · intro k hk e
    have := hol k e
    rcases q2' k hk with e' | e'
    · exact h8 k e' e
    · omega
theorem CW.fin (h : CW w0 cur b v L M) : ∃ o A c, v = .slice A M.length c ∧ IsWr cur b o L ∧ RdB cur A M.length c M := by
  obtain ⟨o, o2, h1, h2, _⟩ := h
  obtain ⟨A, c, rfl⟩ := own_slice h2
  exact ⟨o, A, c, rfl, h1, own_rd h2⟩
theorem CW.start {w0 cur : World} {b : Nat} (h : IsWr cur b none []) (hc : Ch [] w0 cur) (hb : w0.heap.size ≤ b) : CW w0 cur b (.slice none 0 0) [] [] :=
  ⟨none, none, h, World.ownsRow_nil _ _ _ _, rfl, hc, hb, by simp, by simp, by simp, by simp⟩
end

end Go.Proofs.Ytbkncfedahifkaa
