/-
  Package latch: number, text, Holder, Epoch, Leave, Pair.
-/
import Derived.Test.YtbkncfedahifkaaGreatStMore
import Derived.Test.YtbkncfedahifkaaGreatStRep
import Derived.Test.YtbkncfedahifkaaGreatLKey
import Derived.Test.YtbkncfedahifkaaGreatLAlike
import Derived.Lib.ConvBytes
import Derived.Laws.AppendOwn
import Derived.Laws.Bits64b
set_option linter.unusedVariables false
set_option linter.unusedSimpArgs false
namespace Go.Proofs.YtbkncfedahifkaaGreat
open Go.RowKit Go.Maps Go.Sort Go.Shelf

/-- A text as bytes of one's own. -/
theorem conv_bytes (l : List UInt8) (w : World) (h : l.length ≤ 1000000) :
    ∃ c W, (convert 9 45 (.string (str l))).run Tryz.prog w = .ok (.slice (some ⟨w.heap.size, 0, none⟩) l.length c) W ∧ RdB W (some ⟨w.heap.size, 0, none⟩) l.length c l ∧ Ch [] w W := by
  have hs : (str l).size = l.length := rfl
  refine ⟨_, _, Lib.run_convert_string_bytes (P := Tryz.prog) w 9 45 5 (str l) Tryz.underlying9 Tryz.underlying45 Tryz.underlying5, ?_, ?_⟩
  · refine ⟨by simp [bvs], by have := grownCap_ge w (str l).size 0 5; omega, grownCap_le_maxLen w (str l).size 0 5 (by unfold maxLen; omega), fun hn => ⟨w.heap.size, 0, rfl, ?_⟩⟩
    intro j u hu
    have hj : j < l.length := by
      have := (List.getElem?_eq_some_iff.1 hu).1
      simpa [bvs] using this
    rw [Nat.zero_add, Lib.bytesWorld_cell w 5 (str l) j hj]
    rw [← hu]
    simp [bvs, List.getD, hj, str, bv]
  · refine ⟨rfl, rfl, rfl, ?_, ?_⟩
    · rw [Lib.bytesWorld_size]; omega
    · exact fun k hk _ => Lib.bytesWorld_at_old w 5 (str l) k hk

/-- The keys. -/
def kE : List UInt8 := [108, 47, 101, 112, 111, 99, 104]
def kH : List UInt8 := [108, 47, 104, 111, 108, 100, 101, 114]
/-- A number that is noted: absent, or laid as a number. -/
def EpochOf (D : Mp) (n : Nat) : Prop := getL D kE = (if n = 0 then [] else encN n)
/-- Who is noted. -/
def Noted (D : Mp) (x : Option (Int × Int)) : Prop := match x with
  | none => has D (skey kH) = false ∧ getL D kH = []
  | some (o, e) => has D (skey kH) = true ∧ getL D kH = encs [zz o, zz e]
/-- A latch in its block. -/
def IsLt (w : World) (y sb : Nat) (ep ow : Int) (hd : Bool) : Prop := w.heap[y]? = some (.cells #[.pointer (some ⟨sb, 0, none⟩), .int .i64 ep, .int .i64 ow, .bool hd] 130 (0, 0))
theorem IsLt.keep {w w' : World} {y sb : Nat} {ep ow : Int} {hd : Bool} {F : List Nat} (h : IsLt w y sb ep ow hd) (hc : Ch F w w') (hF : y ∉ F) : IsLt w' y sb ep ow hd := hc.at_ h hF

theorem land_most (n : Nat) (h : n < 9223372036854775808) : bits .and .u64 (n : Int) 9223372036854775807 = (n : Int) := by
  have e := bits_and_u64_nat n 9223372036854775807 (by omega) (by omega)
  have e2 : n &&& 9223372036854775807 = n := by
    have := Nat.and_two_pow_sub_one_eq_mod n 63
    rw [show (2 : Nat) ^ 63 - 1 = 9223372036854775807 by decide] at this
    rw [this]
    exact Nat.mod_eq_of_lt (by rw [show (2 : Nat) ^ 63 = 9223372036854775808 by decide]; exact h)
  rw [e2] at e
  exact e

section
variable {sb lb um b g m n sz turn a : Nat} {X : List Nat} {D : Mp}
set_option maxRecDepth 100000 in
set_option maxHeartbeats 1000000 in
theorem lnumber_any (x : Nat) (w : World) (h : StoreS w sb lb um b g m X n sz turn a D) (he : EpochOf D x) (hx : x < 9223372036854775808) :
    Calls Tryz.prog 59 #[.pointer (some ⟨sb, 0, none⟩), .string (str kE)] w fun e w' => e = .returned (.int .i64 (x : Int)) ∧ Ch [] w w' := by
  have hg := stget_any (str kE) w h (by decide)
  rw [str_data] at hg
  unfold EpochOf at he
  rw [he] at hg
  have hl : (if x = 0 then [] else encN x : List UInt8).length ≤ 10 := by
    split
    · simp
    · exact encN_len10 (by omega)
  have hans : ans (.int .u64 0) ((some (if x = 0 then [] else encN x : List UInt8)).bind rNum) = .int .u64 (x : Int) := by
    split
    · next h0 => subst h0; rfl
    · have := decN_encN x [] (by omega)
      rw [List.append_nil] at this
      simp [rNum, this, ans]
  have hland := land_most x hx
  generalize (if x = 0 then [] else encN x : List UInt8) = l at *
  generalize has D (skey kE) = hh at *
  have HANS := Lib.hid hans
  clear hans he
  go_enter Tryz.func59, Tryz.ntmps59
  go_wp2_with fail
  refine hg.mono ?_
  rintro e w' ⟨rfl, rfl⟩
  obtain ⟨c, W, hrun, hrd, hc⟩ := conv_bytes l w (by omega)
  go_wp2_with fail
  refine (new_reader _ _ c l W hrd (by omega)).mono ?_
  rintro e w2 ⟨rb, rg, rfl, hr2, hb2, hg2, hc2⟩
  clear hrun hrd hg
  have hz := hc.size
  go_wp2_with fail
  refine (rnum rb rg _ w2 hr2).mono ?_
  rw [HANS.out]
  rintro e w3 ⟨rfl, hr3, hc3⟩
  have hw : IntKind.i64.wrap (x : Int) = (x : Int) := by rw [IntKind.wrap_i64]; omega
  go_wp2_with fail
  go_ret
  refine ⟨?_, (hc.trans hc2 (by simp)).trans hc3 (by simp; omega)⟩
  first | rfl | simp [hland, hw]

set_option maxRecDepth 100000 in
set_option maxHeartbeats 1000000 in
theorem ltext_any (p q : Int) (A : Option Addr) (c : Nat) (w : World) (hr : Rd 1 w A 2 c (i64s [p, q])) (hp : -9223372036854775808 ≤ p ∧ p ≤ 9223372036854775807) (hq : -9223372036854775808 ≤ q ∧ q ≤ 9223372036854775807) :
    Calls Tryz.prog 63 #[.slice A 2 c] w fun e w' => e = .returned (.string (str (encs [zz p, zz q]))) ∧ Ch [] w w' := by
  have hlen : (encs [zz p, zz q]).length ≤ 20 := by
    have := encs_len [zz p, zz q] (by
      intro x hx
      simp only [List.mem_cons, List.not_mem_nil, or_false] at hx
      rcases hx with rfl | rfl
      · exact zz_lt hp.1 hp.2
      · exact zz_lt hq.1 hq.2)
    simpa using this
  go_enter Tryz.func63, Tryz.ntmps63
  go_wp2_with fail
  refine (new_wr w).mono ?_
  rintro e w1 ⟨wb, rfl, hw1, hb1, hc1⟩
  obtain ⟨rb, ro, rfl, _⟩ := hr.cells (by omega)
  have hlt : rb < w.heap.size := by
    obtain ⟨b', o', e', hcell⟩ := hr.cells (by omega)
    injection e' with e'
    injection e' with e1 e2
    subst e1
    exact World.block_lt_of_cell? w _ (hcell 0 (.int .i64 p) rfl)
  have hz1 := hc1.size
  have hwi := wint wb none [] (some ⟨rb, ro, none⟩) 2 c [p, q] w1 hw1 (hr.keep hc1 (by simp)) (by intro x hx; simp only [List.mem_cons, List.not_mem_nil, or_false] at hx; rcases hx with rfl | rfl; exact hp; exact hq) (by simp) (by intro a ha; injection ha with ha; subst ha; exact ⟨by show rb ≠ wb; omega, by simp⟩)
  go_wp2_with fail
  refine hwi.mono ?_
  rintro e w2 ⟨rfl, hst2⟩
  obtain ⟨o2, hw2, ho2, hc2⟩ := hst2.own hb1 (by simp) hc1
  rw [List.nil_append, show [p, q].map zz = [zz p, zz q] from rfl] at hw2
  clear hst2 hwi
  go_wp2_with fail
  refine (wbytes wb o2 _ w2 hw2 (by omega)).mono ?_
  rintro e w3 ⟨v3, rfl, ⟨A3, c3, rfl, ho3⟩, hc3⟩
  have hcv := conv_str (own_rd ho3) 45 5 9 Tryz.underlying45 Tryz.underlying5 Tryz.underlying9
  go_wp2_with fail
  go_ret
  exact ⟨rfl, hc2.trans hc3 (by simp)⟩

theorem rInt_zz (x : Int) (r : List UInt8) (h0 : -9223372036854775808 ≤ x) (h1 : x ≤ 9223372036854775807) : (some (encN (zz x) ++ r)).bind rInt = some (.int .i64 x, r) := by
  rw [Option.bind_some, rInt, decN_encN (zz x) r (zz_lt h0 h1), Option.map_some, unzz_zz]

set_option maxRecDepth 100000 in
set_option maxHeartbeats 1000000 in
theorem lholder_no (y : Nat) (ep ow : Int) (hd : Bool) (w : World) (h : StoreS w sb lb um b g m X n sz turn a D) (hl : IsLt w y sb ep ow hd) (hn : Noted D none) :
    Calls Tryz.prog 31 #[.pointer (some ⟨y, 0, none⟩)] w fun e w' => e = .returned (.tuple #[.int .i64 0, .int .i64 0, .bool false]) ∧ Ch [] w w' := by
  have hg := stget_any (str kH) w h (by decide)
  rw [str_data, hn.1, hn.2] at hg
  have c0 := cell_at hl 0 rfl
  go_enter Tryz.func31, Tryz.ntmps31
  go_wp2_with fail
  refine hg.mono ?_
  rintro e w' ⟨rfl, rfl⟩
  obtain ⟨c, W, hrun, hrd, hc⟩ := conv_bytes [] w (by simp)
  go_wp2_with fail
  refine (new_reader _ _ c [] W hrd (by simp)).mono ?_
  rintro e w2 ⟨rb, rg, rfl, hr2, hb2, hg2, hc2⟩
  clear hrun hrd hg
  have hz := hc.size
  go_wp2_with fail
  refine (rint rb rg _ w2 hr2).mono ?_
  rw [show ((some ([] : List UInt8)).bind rInt) = none from rfl]
  rintro e w3 ⟨rfl, hr3, hc3⟩
  simp only [ans, Option.map_none] at hr3 ⊢
  go_wp2_with fail
  refine (rint rb rg _ w3 hr3).mono ?_
  rw [Option.bind_none]
  rintro e w4 ⟨rfl, hr4, hc4⟩
  simp only [ans, Option.map_none] at hr4 ⊢
  go_wp2_with fail
  go_ret3
  exact ⟨rfl, ((hc.trans hc2 (by simp)).trans hc3 (by simp; omega)).trans hc4 (by simp; omega)⟩

set_option maxRecDepth 100000 in
set_option maxHeartbeats 1000000 in
theorem lholder_yes (o e0 : Int) (y : Nat) (ep ow : Int) (hd : Bool) (w : World) (h : StoreS w sb lb um b g m X n sz turn a D) (hl : IsLt w y sb ep ow hd) (hn : Noted D (some (o, e0))) (ho : -9223372036854775808 ≤ o ∧ o ≤ 9223372036854775807) (he : -9223372036854775808 ≤ e0 ∧ e0 ≤ 9223372036854775807) :
    Calls Tryz.prog 31 #[.pointer (some ⟨y, 0, none⟩)] w fun e w' => e = .returned (.tuple #[.int .i64 o, .int .i64 e0, .bool true]) ∧ Ch [] w w' := by
  have hg := stget_any (str kH) w h (by decide)
  rw [str_data, hn.1, hn.2] at hg
  have c0 := cell_at hl 0 rfl
  have hlen : (encs [zz o, zz e0]).length ≤ 20 := by
    have := encs_len [zz o, zz e0] (by
      intro x hx
      simp only [List.mem_cons, List.not_mem_nil, or_false] at hx
      rcases hx with rfl | rfl
      · exact zz_lt ho.1 ho.2
      · exact zz_lt he.1 he.2)
    simpa using this
  have h1 := rInt_zz o (encN (zz e0)) ho.1 ho.2
  have h2 := rInt_zz e0 [] he.1 he.2
  rw [List.append_nil] at h2
  have h3 : encs [zz o, zz e0] = encN (zz o) ++ encN (zz e0) := by simp [encs]
  rw [← h3] at h1
  generalize encs [zz o, zz e0] = l at *
  generalize encN (zz e0) = l2 at *
  have H1 := Lib.hid h1
  have H2 := Lib.hid h2
  clear h1 h2 h3 hn
  go_enter Tryz.func31, Tryz.ntmps31
  go_wp2_with fail
  refine hg.mono ?_
  rintro e w' ⟨rfl, rfl⟩
  obtain ⟨c, W, hrun, hrd, hc⟩ := conv_bytes l w (by omega)
  go_wp2_with fail
  refine (new_reader _ _ c l W hrd (by omega)).mono ?_
  rintro e w2 ⟨rb, rg, rfl, hr2, hb2, hg2, hc2⟩
  clear hrun hrd hg
  have hz := hc.size
  go_wp2_with fail
  refine (rint rb rg _ w2 hr2).mono ?_
  rw [H1.out]
  rintro e w3 ⟨rfl, hr3, hc3⟩
  simp only [ans, Option.map_some] at hr3 ⊢
  go_wp2_with fail
  refine (rint rb rg _ w3 hr3).mono ?_
  rw [H2.out]
  rintro e w4 ⟨rfl, hr4, hc4⟩
  simp only [ans, Option.map_some] at hr4 ⊢
  go_wp2_with fail
  refine (rdone rb rg _ w4 hr4).mono ?_
  rintro e w5 ⟨rfl, rfl⟩
  simp only [doneV]
  go_wp2_with fail
  go_ret3
  exact ⟨rfl, ((hc.trans hc2 (by simp)).trans hc3 (by simp; omega)).trans hc4 (by simp; omega)⟩

set_option maxRecDepth 100000 in
theorem lepoch_any (y : Nat) (ep ow : Int) (hd : Bool) (w : World) (hl : IsLt w y sb ep ow hd) :
    Calls Tryz.prog 30 #[.pointer (some ⟨y, 0, none⟩)] w fun e w' => e = .returned (.int .i64 ep) ∧ w = w' := by
  have c1 := cell_at hl 1 rfl
  go_enter Tryz.func30, Tryz.ntmps30
  go_wp2_with fail
  go_ret
  exact ⟨rfl, rfl⟩

set_option maxRecDepth 100000 in
theorem lpair_any (y : Nat) (w : World) :
    Calls Tryz.prog 32 #[.pointer (some ⟨y, 0, none⟩)] w fun e w' => e = .returned (.agg #[.string (str kH), .string ⟨#[]⟩, .bool true]) ∧ Ch [] w w' := by
  go_enter Tryz.func32, Tryz.ntmps32
  go_wp2_with fail
  have hb := heap_alloc_new w (.cells #[.string (str kH), .string ⟨#[]⟩, .bool true] 32)
  have z0 := cell_at hb 0 rfl
  have z1 := cell_at hb 1 rfl
  have z2 := cell_at hb 2 rfl
  refine bodyPost_ret (by simp [results, Tryz.results32, go_sem, z0, z1, z2]; try rfl) rfl ?_
  exact ⟨rfl, (Ch.refl [] w).alloc _⟩

set_option maxRecDepth 100000 in
set_option maxHeartbeats 1000000 in
theorem lleave_any (y : Nat) (ep ow q : Int) (hd : Bool) (w : World) (hl : IsLt w y sb ep ow hd) :
    Calls Tryz.prog 29 #[.pointer (some ⟨y, 0, none⟩), .int .i64 q] w fun e w' => e = .returned (.tuple #[]) ∧ IsLt w' y sb ep ow (hd && !decide (ow = q)) ∧ Ch [y] w w' := by
  have c2 := cell_at hl 2 rfl
  have c3 := cell_at hl 3 rfl
  have f3 := free_at hl 3
  go_enter Tryz.func29, Tryz.ntmps29
  rcases hd with _ | _
  · go_wp2_with fail
    go_end0
    exact ⟨rfl, hl, Ch.refl _ _⟩
  · by_cases hq : ow = q
    · subst hq
      go_wp2_with fail
      go_end0
      refine ⟨rfl, ?_, (Ch.refl [y] w).setCell _ _ (by simp)⟩
      have := heap_setCell_same w y 3 _ 130 (.bool false) hl
      simpa [IsLt] using this
    · go_wp2_with fail
      go_end0
      refine ⟨rfl, ?_, Ch.refl _ _⟩
      simpa [hq] using hl
end

end Go.Proofs.YtbkncfedahifkaaGreat
