/-
  LatchTakes.
-/
import Derived.Test.YtbkncfedahifkaaGreatLatchKnown
set_option linter.unusedVariables false
set_option linter.unusedSimpArgs false
namespace Go.Proofs.YtbkncfedahifkaaGreat
open Go.RowKit Go.Maps Go.Sort Go.Shelf

def pX : PairL := ⟨[120, 47, 107], [49], false⟩
theorem pXG_ok : ∀ q ∈ [pX, pG], q.ok ∧ q.k.length ≤ 8 ∧ q.v.length ≤ 20 := by
  intro q hq
  simp only [List.mem_cons, List.not_mem_nil, or_false] at hq
  rcases hq with rfl | rfl <;> exact ⟨⟨by decide, by decide⟩, by decide, by decide⟩
theorem epoch_x {D : Mp} {n : Nat} (h : EpochOf D n) : EpochOf (chgs D [pX, pG]) n := by
  have e : chgs D [pX, pG] = chgs (chgs D [pX]) [pG] := rfl
  rw [e]
  refine epoch_gone ?_
  have h2 : getL (chgs D [pX]) kE = getL D kE := getL_put_other (by decide) _
  unfold EpochOf
  rw [h2]
  exact h
theorem noted_x (D : Mp) : Noted (chgs D [pX, pG]) none := noted_gone (chgs D [pX])
theorem got_x {D : Mp} (h : IsMap D) : has (chgs D [pX, pG]) (skey pX.k) = true ∧ getL (chgs D [pX, pG]) pX.k = [49] := by
  have h1 : has (chgs D [pX, pG]) (skey pX.k) = has (chgs D [pX]) (skey pX.k) := has_del_other (skey_ne (by decide))
  have h2 : getL (chgs D [pX, pG]) pX.k = getL (chgs D [pX]) pX.k := getL_del_other (by decide)
  rw [h1, h2]
  exact ⟨has_put_same h (by trivial) _, getL_put_same h _ _⟩

set_option maxRecDepth 100000 in
set_option maxHeartbeats 8000000 in
theorem latch_takes (p q t : Int) (w : World) (hp : 0 ≤ p ∧ p ≤ 255) (hq : 0 ≤ q ∧ q ≤ 255) (ht : 0 ≤ t ∧ t ≤ 255) :
    Calls Tryz.prog 10 #[.int .u8 p, .int .u8 q, .int .u8 t] w fun e w' => e = .returned (.bool true) ∧ Ch [] w w' := by
  have hp1 : IntKind.i64.wrap p = p := by rw [IntKind.wrap_i64]; omega
  have hq1 : IntKind.i64.wrap q = q := by rw [IntKind.wrap_i64]; omega
  go_enter Tryz.func10, Tryz.ntmps10
  go_wp2_with fail
  refine (known25 w).mono ?_
  rintro e w0 ⟨rfl, hc0⟩
  have hz0 := hc0.size
  have hnd := new_store 400 w0 (by omega) (by omega)
  rw [show ((400 : Nat) : Int) = 400 from rfl] at hnd
  go_wp2_with fail
  refine hnd.mono ?_
  rintro e w1 ⟨b, g, m, rfl, hb, hg, hm, hd1, hc1⟩
  clear hnd
  have ho := stopen_any w1 hd1 (by simp) (by omega) (by omega) (by omega)
  go_wp2_with fail
  refine ho.mono ?_
  rintro e w2 ⟨sb, lb, um, rfl, hsb, hlb, hum, hs2, hc2⟩
  clear ho hd1
  have hcw2 := (hc0.trans hc1 (by simp)).trans hc2 (by simp)
  have hz1 := hc1.size
  have hfr : ∀ z ∈ [sb, lb, um, b, g, m], w.heap.size ≤ z := by intro z hz; simp only [List.mem_cons, List.not_mem_nil, or_false] at hz; omega
  have HFR := Lib.hid hfr
  clear hfr hb hg hm hsb hlb hum hc0 hc1 hc2 hz1 hz0
  have hop := lats_open (ep := 0) (x := none) w2 hs2 epoch_empty noted_empty (by omega) (by omega) (by omega)
  go_wp2_with fail
  refine hop.mono ?_
  rintro e w3 ⟨y, a3, D3, rfl, hy, hy2, ha3, hl3, hc3⟩
  clear hop hs2
  have hcw3 : Ch [] w w3 := hcw2.trans hc3 (fun z hz => .inr (HFR.out z hz))
  have hyw : w.heap.size ≤ y := by have := hcw2.size; omega
  have hfr : ∀ z ∈ [sb, lb, um, b, g, m, y], w.heap.size ≤ z := by
    intro z hz
    have := HFR.out z
    simp only [List.mem_cons, List.not_mem_nil, or_false] at hz this
    omega
  have HF2 := Lib.hid hfr
  clear hfr hc3 hy hcw2
  rw [show (0 + 1 : Nat) = 1 from rfl] at hl3
  obtain ⟨r, hr⟩ : ∃ r : Nat, (r : Int) = t % 4 := ⟨(t % 4).toNat, by omega⟩
  have hr4 : r < 4 := by omega
  go_wp2_with fail
  go_loopw [11] (fun ki wr => ∃ (k a : Nat) (D : Mp) (ow : Int), k ≤ r + 1 ∧ ki = .int .i64 (k : Int) ∧ a ≤ 1 + 3 * k ∧ LatS wr sb lb um b g m y 400 0 a D 1 ow false none ∧ (0 < k → has D (skey pX.k) = true ∧ getL D pX.k = [49]) ∧ Ch [] w wr) (fun ki _ => r + 1 - (intOf ki).toNat)
  case atStart => exact ⟨0, a3, D3, 0, by omega, rfl, by omega, hl3, by omega, hcw3⟩
  case round =>
    clear hl3 hcw3 hy2
    obtain ⟨k, a, D, ow, hk, rfl, hak, hlA, hgot, hch⟩ := hrel
    obtain ⟨wA, hwA⟩ : ∃ W, W = wr := ⟨_, rfl⟩
    subst hwA
    have HGOT := Lib.hid hgot
    clear hgot
    by_cases hlt : k < r + 1
    · have htr := lats_yes p wA hlA (by simp) (by simp) (by omega) (by omega) (by omega) (by omega)
      go_wp2_with fail
      refine htr.mono ?_
      rintro e wB ⟨rfl, aB, DB, haB, hlB, hcB⟩
      clear htr hlA
      have hcwB : Ch [] w wB := hch.trans hcB (fun z hz => .inr (HF2.out z hz))
      clear hch hcB
      have hlv := lats_leave (p + 1 + q) wB hlB
      rw [show (true && !decide (p = p + 1 + q)) = true by simp; omega] at hlv
      go_wp2_with fail
      refine hlv.mono ?_
      rintro e wC ⟨rfl, hlC, hcC⟩
      clear hlv hlB
      have hcwC : Ch [] w wC := hcwB.trans hcC (fun z hz => .inr (HF2.out z (by simp only [List.mem_singleton] at hz; simp [hz])))
      clear hcwB hcC
      have htr := lats_no q wC hlC (by omega) (by omega)
      go_wp2_with fail
      refine htr.mono ?_
      rintro e wD ⟨rfl, hcD⟩
      clear htr
      have hlD := hlC.nil hcD
      have hcwD := hcwC.trans hcD (by simp)
      clear hlC hcwC hcD
      go_wp2_with fail
      refine (lpair_any y wD).mono ?_
      rintro e wE ⟨rfl, hcE⟩
      have hlE := hlD.nil hcE
      have hcwE := hcwD.trans hcE (by simp)
      clear hlD hcwD hcE
      have hcX : Ch [] wE (wE.alloc (.cells #[.string ⟨#[120, 47, 107]⟩, .string ⟨#[49]⟩, .bool false, .string (str kH), .string ⟨#[]⟩, .bool true] 32)) := (Ch.refl [] wE).alloc _
      have hlF := hlE.nil hcX
      have hap := stapply_any (some ⟨wE.heap.size, 0, none⟩) 2 2 [pX, pG] _ hlF.st hlF.hX (pairs_block [pX, pG] (heap_alloc_new wE _) (by simp [maxLen])) rfl (by omega) (fun q hq => (pXG_ok q hq).1) (by omega) (commitP_fit 400 512 aB 8 20 [pX, pG] pXG_ok (by omega) (by simp only [List.length_cons, List.length_nil]; omega))
      have hlen := lenP_le 512 8 20 1 [pX, pG] pXG_ok (by omega) (by simp)
      have HLE := Lib.hid hlen
      clear hlen
      go_wp2_with fail
      refine hap.mono ?_
      rintro e wG ⟨rfl, hsG, hcG⟩
      clear hap
      have hlG : LatS wG sb lb um b g m y 400 0 _ (chgs DB [pX, pG]) 1 p true none := ⟨hsG, hlF.lt.keep hcG (by have := hlF.yn; simp only [List.mem_cons, List.not_mem_nil, or_false]; omega), epoch_x hlF.ep, noted_x DB, hlF.yn⟩
      have hcwG : Ch [] w wG := (hcwE.trans hcX (by simp)).trans hcG (fun z hz => .inr (HFR.out z hz))
      have hgx := got_x (strMap_isMap hlF.st.strMap)
      have HGX := Lib.hid hgx
      clear hgx hlE hcwE hsG hcG hcX hlF
      have hlv := lats_leave p wG hlG
      rw [show (true && !decide (p = p)) = false by simp] at hlv
      go_wp2_with fail
      refine hlv.mono ?_
      rintro e wH ⟨rfl, hlH, hcH⟩
      clear hlv hlG
      have hcwH : Ch [] w wH := hcwG.trans hcH (fun z hz => .inr (HF2.out z (by simp only [List.mem_singleton] at hz; simp [hz])))
      clear hcwG hcH
      have hwho := lats_none wH hlH
      go_wp2_with fail
      refine hwho.mono ?_
      rintro e wI ⟨rfl, hcI⟩
      clear hwho
      go_wp2_with fail
      refine ⟨⟨k + 1, _, _, p, by omega, by go_num, ?_, hlH.nil hcI, fun _ => HGX.out, hcwH.trans hcI (by simp)⟩, ?_⟩
      · have := HLE.out
        omega
      · simp [intOf]
        omega
    · obtain rfl : k = r + 1 := by omega
      clear hlt hk
      obtain ⟨g1, g2⟩ := HGOT.out (by omega)
      have hgt := stget_any (str pX.k) wA hlA.st (by decide)
      rw [str_data, g1, g2] at hgt
      have hne := eql_str [49] [49]
      simp only [decide_true] at hne
      go_wp2_with fail
      refine hgt.mono ?_
      rintro e wB ⟨rfl, rfl⟩
      clear hgt
      go_wp2_with fail
      go_ret
      refine ⟨?_, hch⟩
      show Ending.returned (.bool ((str [49]).toList == [49])) = _
      rw [str_toList]
      rfl

end Go.Proofs.YtbkncfedahifkaaGreat
