/-
  The statements of layer 4: known.
-/
import Derived.Test.YtbkncfedahifkaaWKnown
set_option linter.unusedVariables false
set_option linter.unusedSimpArgs false
namespace Go.Proofs.Ytbkncfedahifkaa
open Go.RowKit Go.Maps

/-- A slice of slices in a block. -/
theorem recs_block {w : World} {F : List Nat} {b : Nat} {t : TypeId} {fr : Nat × Nat} (vs : List Value) (rs : List (List UInt8)) (h : w.heap[b]? = some (.cells vs.toArray t fr)) (hl : vs.length = rs.length) (hm : rs.length ≤ maxLen) (hb : b ∉ F)
    (hv : ∀ (i : Nat) (h : i < rs.length), ∃ v, vs[i]? = some v ∧ RowV w F v rs[i]) : Recs w F (some ⟨b, 0, none⟩) rs.length rs.length rs :=
  ⟨⟨vs, ⟨by rw [hl]; omega, Nat.le_refl _, hm, fun _ => ⟨b, 0, rfl, fun j u hu => by rw [Nat.zero_add]; exact cell_at h j (by simpa using hu)⟩⟩, hv⟩, rfl, fun a ha => by injection ha with ha; subst ha; exact hb⟩
theorem allocHeap (w : World) (o : Obj) : (w.alloc o).heap = w.heap.push o := rfl
theorem push_last {α : Type} (a : Array α) (x : α) (k : Nat) (hk : k = a.size) : (a.push x)[k]? = some x := by subst hk; simp
theorem push_under {α : Type} (a : Array α) (x : α) (k : Nat) (hk : k < a.size) : (a.push x)[k]? = a[k]? := by rw [Array.getElem?_push, if_neg (by omega)]
theorem recs_made {w : World} {g k c : Nat} {L : List UInt8} (hr : RdB w (some ⟨g, 0, none⟩) k c L) (F : List Nat) (hg : g ∉ F) (hF : ∀ x ∈ F, x < w.heap.size) : Recs (w.alloc (.cells #[.slice (some ⟨g, 0, none⟩) k c] 28)) F (some ⟨w.heap.size, 0, none⟩) 1 1 [L] := by
  refine recs_block (t := 28) (fr := (0, 0)) [.slice (some ⟨g, 0, none⟩) k c] [L] (push_last _ _ _ rfl) rfl (by simp [maxLen]) (fun h => by have := hF _ h; omega) (fun i hi => ?_)
  obtain rfl : i = 0 := by simp at hi; omega
  exact ⟨_, rfl, _, _, _, rfl, hr.keep (F := []) ((Ch.refl [] w).alloc _) (by simp), fun a ha => by injection ha with ha; subst ha; exact hg⟩
theorem commitE_long (n sz a : Nat) (rs : List (List UInt8)) (r : List UInt8) (hr : r ∈ rs) (h : 1048576 < r.length) : commitE n sz a rs = 42 := by
  unfold commitE
  rw [if_pos (List.any_eq_true.2 ⟨r, hr, by simpa [longB] using h⟩)]
def kw (w : World) : World := ((w.alloc (.cells #[.int .u8 97] 5 (1, 2))).alloc (.cells #[.int .u8 98, .int .u8 99] 5 (2, 3))).alloc (.cells #[.slice (some ⟨w.heap.size, 0, none⟩) 1 1, .slice (some ⟨w.heap.size + 1, 0, none⟩) 2 2] 28)
theorem kw_recs (w : World) (F : List Nat) (hF : ∀ x ∈ F, x < w.heap.size) : Recs (kw w) F (some ⟨w.heap.size + 1 + 1, 0, none⟩) 2 2 [[97], [98, 99]] ∧ Ch [] w (kw w) := by
  refine ⟨recs_block (t := 28) (fr := (0, 0)) [.slice (some ⟨w.heap.size, 0, none⟩) 1 1, .slice (some ⟨w.heap.size + 1, 0, none⟩) 2 2] [[97], [98, 99]] ?_ rfl (by simp [maxLen]) (fun h => by have := hF _ h; omega) (fun i hi => ?_), ((Ch.refl [] w).alloc _ |>.alloc _).alloc _⟩
  · exact push_last _ _ _ (by simp only [allocHeap, Array.size_push])
  · rcases i with _ | _ | i
    · exact ⟨_, rfl, _, _, _, rfl, rd_block (t := 5) (fr := (1, 2)) [97] ((push_under _ _ _ (by simp only [allocHeap, Array.size_push]; omega)).trans ((push_under _ _ _ (by simp only [allocHeap, Array.size_push]; omega)).trans (push_last _ _ _ rfl))) (by simp [maxLen]), fun a ha hm => by injection ha with ha; subst ha; have := hF _ hm; simp at this⟩
    · exact ⟨_, rfl, _, _, _, rfl, rd_block (t := 5) (fr := (2, 3)) [98, 99] ((push_under _ _ _ (by simp only [allocHeap, Array.size_push]; omega)).trans (push_last _ _ _ (by simp only [allocHeap, Array.size_push]))) (by simp [maxLen]), fun a ha hm => by injection ha with ha; subst ha; have := hF _ hm; simp at this; omega⟩
    · simp at hi; omega

set_option maxRecDepth 100000 in
set_option maxHeartbeats 2000000 in
theorem known4 (w : World) : Calls Try.prog 55 #[] w fun e w' => e = .returned (.bool true) ∧ Ch [] w w' := by
  have hn := newdisk_any 60 256 [] w (by simp) (by omega) (by omega) (by omega) (by omega)
  have hn9 := newdisk_any 9 256
  rw [show ((60 : Nat) : Int) = 60 from rfl, show ((256 : Nat) : Int) = 256 from rfl] at hn
  rw [show ((9 : Nat) : Int) = 9 from rfl, show ((256 : Nat) : Int) = 256 from rfl] at hn9
  go_enter Try.func55, Try.ntmps55
  go_wp2_with fail
  refine hn.mono ?_
  rintro e w1 ⟨b, g, m, rfl, hb, hg, hm, hd1, hc1⟩
  clear hn
  have ho := openlog_any w1 hd1 (by simp) (by omega) (by omega) (by omega)
  go_wp2_with fail
  refine ho.mono ?_
  rintro e w2 ⟨lb, um, A0, c0, rfl, hlb, hum, hl2, hr2, hc2⟩
  clear ho
  have hs2 := hc2.size
  have hO := hl2.out
  simp only [List.length_nil]
  have hv1 := Joins.run_convert_bytes_const_at w2 28 5 #[.int .u8 97] 1 1 w2.heap.size rfl Try.underlying28 Try.underlying5
  have hv2 := Joins.run_convert_bytes_const_at (w2.alloc (.cells #[.int .u8 97] 5 (1, 2))) 28 5 #[.int .u8 98, .int .u8 99] 2 2 (w2.heap.size + 1) (by simp) Try.underlying28 Try.underlying5
  go_wp2_with fail
  obtain ⟨hK1, hK2⟩ := kw_recs w2 [lb, b, g, m, um] (by simp; omega)
  have hcm := commit_any _ _ _ _ (kw w2) (hl2.nil hK2) (by simp) hK1 (by omega) (by simp) (by omega) (by decide +kernel) (by simp)
  refine hcm.mono ?_
  rintro e w3 ⟨rfl, hl3, hc3⟩
  clear hcm hv1 hv2 hK1
  have hc23 : Ch [lb, b, g, m, um] w2 w3 := (hK2.mono (by simp)).trans hc3 (by simp)
  clear hc3 hK2
  have hct := count_any w3 hl3
  go_wp2_with fail
  refine hct.mono ?_
  rintro e w' ⟨rfl, rfl⟩
  have hd3 := hl3.disk
  have hO3 := hl3.out
  simp only [List.nil_append] at hl3 hd3 ⊢
  obtain ⟨rs, hrs⟩ : ∃ rs : List (List UInt8), [[97], [98, 99]] = rs := ⟨_, rfl⟩
  have hrl : rs.length = 2 := by subst hrs; rfl
  rw [hrs] at hl3 hd3
  have ho := openlog_any w3 hd3 (by simp; omega) (by omega) (by omega) (by omega)
  go_wp2_with fail
  refine ho.mono ?_
  rintro e w4 ⟨lb2, um2, A4, c4, rfl, hlb2, hum2, hl4, hr4, hc4⟩
  clear ho
  obtain ⟨_, _, e4, hk4⟩ := hr4.recs [] (by simp)
  simp only [Value.slice.injEq, true_and] at e4
  obtain ⟨rfl, rfl⟩ := e4
  have hl34 := hl3.nil hc4
  have hn9' := hn9 [] w4 (by simp) (by omega) (by omega) (by omega) (by omega)
  clear hn9
  rw [hrl]
  rw [hrl] at hk4
  go_wp2_with fail
  refine hn9'.mono ?_
  rintro e w5 ⟨b5, g5, m5, rfl, hb5, hg5, hm5, ⟨R5, x5, hd5, _⟩, hc5⟩
  have hsm := wopen_small b5 g5 m5 9 256 [] R5 w5 hd5 (by omega)
  clear hn9'
  go_wp2_with fail
  refine hsm.mono ?_
  rintro e w' ⟨rfl, rfl⟩
  clear hsm hd5
  have hk5 := hk4.nil hc5
  have hl5 := hl34.nil hc5
  clear hk4 hl34
  obtain ⟨b1, o1, A1, n1, c1, rfl, hx1, hr1, _, hn1⟩ := hk5.at0 0 (by omega)
  obtain ⟨b2, o2, A2, n2, c2, e2, hx2, hr2', _, hn2⟩ := hk5.at0 1 (by omega)
  simp only [Option.some.injEq, Addr.mk.injEq, and_true] at e2
  obtain ⟨rfl, rfl⟩ := e2
  have hs1 := conv_str hr1 28 5 9 Try.underlying28 Try.underlying5 Try.underlying9
  have hs2 := conv_str hr2' 28 5 9 Try.underlying28 Try.underlying5 Try.underlying9
  simp only [← hrs, List.getElem_cons_zero, List.getElem_cons_succ] at hs1 hs2
  have hq1 : binOp .eql 9 (.string (str [97])) (.string ⟨#[97]⟩) = pure (.bool true) := eql_str_yes _ _
  have hq2 : binOp .eql 9 (.string (str [98, 99])) (.string ⟨#[98, 99]⟩) = pure (.bool true) := eql_str_yes _ _
  obtain ⟨w6, hmk, how6, hc6⟩ := make_bytes 1048577 w5 (by omega)
  rw [show ((1048577 : Nat) : Int) = 1048577 from rfl] at hmk
  clear hn1 hn2
  rw [Nat.add_zero] at hx1
  go_wp2_with fail
  obtain ⟨L, hL, hLl⟩ : ∃ L : List UInt8, List.replicate 1048577 0 = L ∧ L.length = 1048577 := ⟨_, rfl, List.length_replicate⟩
  rw [hL] at how6
  have hrm := recs_made (own_rd how6) [] (by simp) (by simp)
  have hl6 := (hl5.nil hc6).nil ((Ch.refl [] w6).alloc (.cells #[.slice (some ⟨w5.heap.size, 0, none⟩) 1048577 1048577] 28))
  have hce := commitE_long 60 256 (0 + lenF 256 rs) [L] L (by simp) (by omega)
  have hno := commit_no _ _ _ [] [L] _ hl6 hrm (by omega) (by simp; omega) (by rw [hce]; decide)
  rw [hce] at hno
  refine hno.mono ?_
  rintro e w7 ⟨rfl, hc7⟩
  have hcF : Ch [] w w7 := by
    have e1 : Ch [lb, b, g, m, um] w1 w3 := (hc2.mono (by simp)).trans hc23 (by simp)
    have e2 : Ch [] w w3 := hc1.trans e1 (by have := hc1.size; intro y hy; simp at hy; omega)
    have e3 : Ch [] w w6 := ((e2.trans hc4 (by simp)).trans hc5 (by simp)).trans hc6 (by simp)
    exact (e3.alloc _).trans hc7 (by simp)
  clear hc1 hc2 hc23 hc4 hc5 hc6 hc7
  go_wp2_with fail
  go_ret
  exact ⟨rfl, hcF⟩

end Go.Proofs.Ytbkncfedahifkaa
