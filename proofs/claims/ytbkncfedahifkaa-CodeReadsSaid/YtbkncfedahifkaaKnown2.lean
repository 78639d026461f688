/-
  The statements of layer 2: known, zig.
-/
import Derived.Test.YtbkncfedahifkaaROuter
set_option linter.unusedVariables false
namespace Go.Proofs.Ytbkncfedahifkaa
open Go.RowKit

theorem rd_row (W : World) (cs : Array Value) (t : TypeId) (n : Nat) (hn : n ≤ maxLen) (hs : cs.size = n) : Rd 1 (W.alloc (.cells cs t)) (some ⟨W.heap.size, 0, none⟩) n n cs.toList :=
  own_rd (World.ownsRow_lit (base := 0) W cs n (Nat.zero_le _) hn (by simpa using hs))
theorem Rd.nil {sz : Nat} {w w' : World} {A : Option Addr} {n c : Nat} {xs : List Value} (h : Rd sz w A n c xs) (hc : Ch [] w w') : Rd sz w' A n c xs := h.keep hc (by simp)

theorem new_wr (w : World) : Calls Try.prog 19 #[] w fun e w' => ∃ b, e = .returned (.pointer (some ⟨b, 0, none⟩)) ∧ IsWr w' b none [] ∧ w.heap.size ≤ b ∧ Ch [] w w' :=
  (new_writer w).mono fun e w' ⟨he, hw⟩ => by
    subst hw
    exact ⟨w.heap.size, he, ⟨_, heap_alloc_new w _, World.ownsRow_nil _ _ _ _, rfl⟩, Nat.le_refl _, (Ch.refl _ _).alloc _⟩

/-- A writer that a function of one's own made: where it lies. -/
theorem WSt.own {w w0 w1 : World} {b : Nat} {o : Option Nat} {l : List UInt8} (h : WSt w0 b o l w1) (hb : w.heap.size ≤ b) (ho : ∀ k, o = some k → w.heap.size ≤ k) (hc : Ch [] w w0) :
    ∃ o', IsWr w1 b o' l ∧ (∀ k, o' = some k → w.heap.size ≤ k) ∧ Ch [] w w1 := by
  obtain ⟨o', h1, h2, h3⟩ := h
  have hs := hc.size
  refine ⟨o', h1, ?_, hc.trans h3 ?_⟩
  · intro k hk
    rcases h2 with rfl | ⟨k', h2, hk'⟩
    · exact ho k hk
    · rw [hk] at h2; injection h2 with h2; omega
  · intro x hx
    simp only [List.mem_cons, Option.mem_toList] at hx
    rcases hx with rfl | hx
    · exact .inr hb
    · exact .inr (ho x hx)

set_option maxRecDepth 100000 in
set_option maxHeartbeats 1600000 in
theorem known2 (w : World) : Calls Try.prog 18 #[] w fun e w' => e = .returned (.bool true) ∧ Ch [] w w' := by
  go_enter Try.func18, Try.ntmps18
  go_wp2_with fail
  refine (new_wr _).mono ?_
  rintro e w1 ⟨b, rfl, hw1, hb, hc1⟩
  go_wp2_with fail
  refine (wint b none [] _ 2 2 [-1, 1] _ (hw1.alloc _) (rd_row w1 _ 2 2 (by simp [maxLen]) rfl) (by simp) (by simp) hw1.fresh).mono ?_
  rintro e w2 ⟨rfl, hst2⟩
  obtain ⟨o2, hw2, ho2, hc2⟩ := hst2.own hb (by simp) (hc1.alloc _)
  have hl : ([] : List UInt8) ++ encs ([-1, 1].map zz) = [1, 2] := by
    have h1 : zz (-1) = 1 := by decide
    have h2 : zz 1 = 2 := by decide
    simp only [List.map_cons, List.map_nil, h1, h2, encs, List.flatMap_cons, List.flatMap_nil, encN_small (show 1 < 128 by omega), encN_small (show 2 < 128 by omega)]
    rfl
  rw [hl] at hw2
  clear hl hst2 hw1 hc1
  go_wp2_with fail
  refine (wbytes b o2 [1, 2] _ hw2 (by simp)).mono ?_
  rintro e w3 ⟨v, rfl, ⟨A3, c3, rfl, hown3⟩, hc3⟩
  have hw3 := hw2.keep hc3 (by simp) (by simp)
  have hcw3 := hc2.trans hc3 (by simp)
  go_wp2_with fail
  refine (new_reader A3 _ c3 [1, 2] _ (own_rd hown3) (by simp)).mono ?_
  rintro e w4 ⟨r, g, rfl, hr4, hrb, hrg, hc4⟩
  have hw4 := hw3.keep hc4 (by simp) (by simp)
  have hs3 := hcw3.size
  have hcw4 := hcw3.trans hc4 (by simp)
  clear hw2 hw3 hc3 hown3 hcw3 hc2
  have hrb' : w.heap.size ≤ r := by omega
  have hrg' : w.heap.size ≤ g := by omega
  clear hrb hrg hs3
  go_wp2_with fail
  refine (wbytes b o2 [1, 2] _ hw4 (by simp)).mono ?_
  rintro e w5 ⟨v, rfl, ⟨A5, c5, rfl, hown5⟩, hc5⟩
  have hcw5 := hcw4.trans hc5 (by simp)
  have hr5 := hr4.nil hc5
  have hcs : (convert 28 9 (.slice A5 2 c5)).run Try.prog w5 = .ok (.string ⟨#[1, 2]⟩) w5 := conv_str (P := Try.prog) (own_rd hown5) 28 5 9 Try.underlying28 Try.underlying5 Try.underlying9
  clear hw4 hcw4 hc5 hr4 hown5 hc4
  go_wp2_with fail
  refine (rint r g (some [1, 2]) _ hr5).mono ?_
  rintro e w6 ⟨rfl, hr6, hc6⟩
  have hcw6 := hcw5.trans hc6 (by simpa using hrb')
  have e6 : ans (.int .i64 0) ((some [1, 2]).bind rInt) = .int .i64 (-1) := by rfl
  have f6 : ((some [1, 2]).bind rInt).map (·.2) = some [2] := by rfl
  rw [f6] at hr6
  rw [e6]
  clear e6 f6 hr5 hcw5 hc6 hcs
  go_wp2_with fail
  refine (rint r g (some [2]) _ hr6).mono ?_
  rintro e w7 ⟨rfl, hr7, hc7⟩
  have hcw7 := hcw6.trans hc7 (by simpa using hrb')
  have e7 : ans (.int .i64 0) ((some [2]).bind rInt) = .int .i64 1 := by rfl
  have f7 : ((some [2]).bind rInt).map (·.2) = some [] := by rfl
  rw [f7] at hr7
  rw [e7]
  clear e7 f7 hr6 hcw6 hc7
  go_wp2_with fail
  refine (rdone r g (some []) _ hr7).mono ?_
  rintro e w8 ⟨rfl, rfl⟩
  have e8 : doneV (some []) = 0 := rfl
  rw [e8]
  clear e8
  go_wp2_with fail
  refine (rtext r g (some []) _ hr7).mono ?_
  rintro e w9 ⟨rfl, hr9, hc9⟩
  have hcw9 := hcw7.trans hc9 (by simpa using hrb')
  have e9 : ans (.string ⟨#[]⟩) ((some []).bind rText) = .string ⟨#[]⟩ := by rfl
  have f9 : ((some []).bind rText).map (·.2) = none := by rfl
  rw [f9] at hr9
  rw [e9]
  clear e9 f9 hr7 hcw7 hc9
  go_wp2_with fail
  refine (rdone r g none _ hr9).mono ?_
  rintro e w10 ⟨rfl, rfl⟩
  have e10 : doneV none = 20 := rfl
  rw [e10]
  clear e10
  go_wp2_with fail
  go_ret
  exact ⟨rfl, hcw9⟩

theorem ret_int {k : IntKind} {a b : Int} (h : a = b) : Ending.returned (.int k a) = .returned (.int k b) := by rw [h]
theorem zig_any (n : Int) (w : World) (h0 : -9223372036854775808 ≤ n) (h1 : n ≤ 9223372036854775807) : Calls Try.prog 25 #[.int .i64 n] w fun e w' => e = .returned (.int .u64 (zz n : Int)) ∧ w = w' := by
  by_cases hn : n < 0
  · have e1 : zz n = (-(n + 1) * 2 + 1).toNat := by unfold zz; rw [if_pos hn]
    have E1 := Lib.hid e1
    clear e1
    go_enter Try.func25, Try.ntmps25
    go_wp2
    go_ret
    exact ⟨ret_int (by rw [E1.out]; omega), rfl⟩
  · have e1 : zz n = (n * 2).toNat := by unfold zz; rw [if_neg hn]
    have E1 := Lib.hid e1
    clear e1
    go_enter Try.func25, Try.ntmps25
    go_wp2
    go_ret
    exact ⟨ret_int (by rw [E1.out]; omega), rfl⟩

end Go.Proofs.Ytbkncfedahifkaa
