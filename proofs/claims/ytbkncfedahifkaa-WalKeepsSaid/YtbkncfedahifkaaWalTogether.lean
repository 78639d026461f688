/-
  WalTogether.
-/
import Derived.Test.YtbkncfedahifkaaRecsCut
set_option linter.unusedVariables false
set_option linter.unusedSimpArgs false
namespace Go.Proofs.Ytbkncfedahifkaa
open Go.RowKit Go.Maps

section
variable {w w' : World} {lb um b g m n sz turn a next count x : Nat} {X : List Nat} {rs : List (List UInt8)} {R : Nat → List UInt8}
theorem LogS.add (h : LogS w lb um b g m X n sz R turn next a count) (hx : w.heap.size ≤ x) : LogS w lb um b g m (x :: X) n sz R turn next a count :=
  { h with
    live := (h.live.add hx).sub (by intro y hy; simp only [List.mem_cons] at hy ⊢; rcases hy with h | h | h | h <;> simp [h])
    lX := by have := lt_of_at h.cells; have := h.lX; simp only [List.mem_cons, not_or]; exact ⟨by omega, h.lX⟩
    uX := by have := h.map.lt; simp only [List.mem_cons, not_or]; exact ⟨by omega, h.uX⟩ }
theorem Logg.add (h : Logg w lb um b g m X n sz turn a rs) (hx : w.heap.size ≤ x) : Logg w lb um b g m (x :: X) n sz turn a rs := by
  obtain ⟨R, next, h1, h2⟩ := h
  exact ⟨R, next, h1.add hx, h2⟩
theorem Logd.add (h : Logd w b g m X n sz turn a rs) (hx : w.heap.size ≤ x) : Logd w b g m (x :: X) n sz turn a rs := by
  obtain ⟨R, next, h1, h2⟩ := h
  exact ⟨R, next, h1.add hx, h2⟩
end

set_option maxRecDepth 100000 in
set_option maxHeartbeats 4000000 in
theorem wal_together (A : Option Addr) (n c : Nat) (L : List UInt8) (A' : Option Addr) (n' c' : Nat) (M : List UInt8) (w : World) (hr : RdB w A n c L) (hr' : RdB w A' n' c' M) :
    Calls Try.prog 14 #[.slice A n c, .slice A' n' c'] w fun e w' => e = .returned (.bool true) ∧ Ch [] w w' := by
  have hl := hr.length
  have hcc := hr.cap
  have hcm := hr.max
  have hl' := hr'.length
  have hcc' := hr'.cap
  have hcm' := hr'.max
  go_enter Try.func14, Try.ntmps14
  go_wp2_with fail
  refine (known4 w).mono ?_
  rintro e w1 ⟨rfl, hc1⟩
  by_cases hn : n ≤ 12 ∧ n ≤ n'
  · obtain ⟨hn, hn2⟩ := hn
    have hnd := newdisk_any 200 256 [] w1 (by simp) (by omega) (by omega) (by omega) (by omega)
    rw [show ((200 : Nat) : Int) = 200 from rfl, show ((256 : Nat) : Int) = 256 from rfl] at hnd
    go_wp2_with fail
    refine hnd.mono ?_
    rintro e w2 ⟨b, g, m, rfl, hb, hg, hm, hd2, hc2⟩
    clear hnd
    have hlt2 := hd2.lts
    have hnd := newdisk_any 200 256 [b, g, m] w2 (by simp; omega) (by omega) (by omega) (by omega) (by omega)
    rw [show ((200 : Nat) : Int) = 200 from rfl, show ((256 : Nat) : Int) = 256 from rfl] at hnd
    go_wp2_with fail
    refine hnd.mono ?_
    rintro e w3 ⟨b2, g2, m2, rfl, hb2, hg2, hm2, hf3, hc3⟩
    clear hnd
    have hd3 := (((hd2.add hb2).add hg2).add hm2).nil hc3
    have hlt3 := hf3.lts
    have ho := openlog_any w3 hd3 (by simp; omega) (by omega) (by omega) (by omega)
    simp only [List.length_nil] at ho
    go_wp2_with fail
    refine ho.mono ?_
    rintro e w4 ⟨lb, um, A0, c0, rfl, hlb, hum, hl4, hr4, hc4⟩
    clear ho hd3 hd2
    have hf4 := ((hf3.add hlb).add hum).nil hc4
    have hlt4 := hl4.out
    have ho := openlog_any w4 hf4 (by simp; omega) (by omega) (by omega) (by omega)
    simp only [List.length_nil] at ho
    go_wp2_with fail
    refine ho.mono ?_
    rintro e w5 ⟨lb2, um2, A2, c2, rfl, hlb2, hum2, hk5, hr5, hc5⟩
    clear ho hf4 hf3 hr5 hr4
    have hl5 := ((hl4.add hlb2).add hum2).nil hc5
    have hlt5 := hk5.out
    clear hl4
    have hc05 : Ch [] w w5 := (((hc1.trans hc2 (by simp)).trans hc3 (by simp)).trans hc4 (by simp)).trans hc5 (by simp)
    have hba := batch_any 5 A n c L w5 (hr.keep hc05 (by simp)) (by omega) (by omega)
    rw [show ((5 : Nat) : Int) = 5 from rfl] at hba
    go_wp2_with fail
    refine hba.mono ?_
    rintro e w6 ⟨v6, rfl, hr6, hc6⟩
    clear hba
    have hbl := batchL_length 5 L
    have hbs := batchL_small 5 L
    obtain ⟨rs, hrs⟩ : ∃ rs, batchL 5 L = rs := ⟨_, rfl⟩
    rw [hrs] at hbl hbs hr6
    obtain ⟨A6, c6, rfl, hq6⟩ := hr6.recs [lb, b, g, m, um] (by simp; omega)
    have hby := bodyB_le rs 255 hbs
    have hce := commitE_fit 200 256 0 rs hbs (by omega)
    have hlf := lenF_le rs 14 (by omega)
    have hl6 := hl5.nil hc6
    have hk6 := hk5.nil hc6
    have hs6 := hc6.size
    have hcm := commit_any A6 _ c6 rs w6 hl6 (by simp; omega) hq6 (by omega) (fun r hr => by have := hbs r hr; omega) (by omega) hce (by simp)
    simp only [List.nil_append, Nat.zero_add] at hcm
    have hce2 := commitE_fit 200 256 (lenF 256 rs) [] (by simp) (by simp [bodyB]; omega)
    have HBL := Lib.hid hbl
    clear hbl hce
    go_wp2_with fail
    refine hcm.mono ?_
    rintro e w7 ⟨rfl, hl7, hc7⟩
    clear hcm hq6 hl6 hl5
    have hs7 := hc7.size
    have hcm := commit_any none 0 0 [] w7 hl7 (by simp; omega) (Recs.empty w7 [lb, b, g, m, um]) (by omega) (by simp) (by omega) hce2 (by have := HBL.out; omega)
    clear hce2
    go_wp2_with fail
    refine hcm.mono ?_
    rintro e w8 ⟨rfl, hl8, hc8⟩
    clear hcm hl7
    rw [List.append_nil] at hl8
    have hc68 : Ch [lb, b, g, m, um] w6 w8 := hc7.trans hc8 (by simp)
    have hk8 := hk6.keep (hc68.mono (by simp))
    have hr8 := hr6.keep hc68 (by simp; omega)
    have hs8 := hc8.size
    clear hc7 hc8 hk6 hk5 hr6
    have hsw : w.heap.size ≤ lb ∧ w.heap.size ≤ um ∧ w.heap.size ≤ b ∧ w.heap.size ≤ g ∧ w.heap.size ≤ m ∧ w.heap.size ≤ lb2 ∧ w.heap.size ≤ um2 ∧ w.heap.size ≤ b2 ∧ w.heap.size ≤ g2 ∧ w.heap.size ≤ m2 := by
      have := hc1.size
      have := hc2.size
      have := hc3.size
      have := hc4.size
      omega
    have hc08 : Ch [] w w8 := (hc05.trans hc6 (by simp)).trans hc68 (by intro y hy; simp at hy; omega)
    obtain ⟨i0, hi0, hi1⟩ := Option.map_eq_some_iff.1 Try.info28
    simp only [Prod.mk.injEq] at hi1
    have HSW := Lib.hid hsw
    clear hsw hc1 hc2 hc3 hc4 hc5 hc05 hc6 hc68
    have hlr12 : rs.length ≤ 12 := by have := HBL.out; omega
    have hlrn : rs.length ≤ n' := by have := HBL.out; omega
    go_wp2_with fail
    go_loopw [14] (fun ki wr => ∃ (k : Nat) (x : Nat), k ≤ rs.length ∧ ki = .int .i64 (k : Int) ∧ Logg wr lb2 um2 b2 g2 m2 [um, lb, b, g, m] 200 256 0 x (rs.take k) ∧ x ≤ 4 * k ∧ Ch [lb2, b2, g2, m2, um2] w8 wr) (fun ki _ => rs.length - (intOf ki).toNat)
    case atStart => exact ⟨0, 0, by omega, rfl, by simpa using hk8, by omega, Ch.refl _ _⟩
    case round =>
      obtain ⟨k, x, hk, rfl, hkA, hx, hch⟩ := hrel
      obtain ⟨wA, hwA⟩ : ∃ W, W = wr := ⟨_, rfl⟩
      subst hwA
      have hsA := hch.size
      have hrA := hr8.keep hch (by simp; omega)
      have hOA := hkA.out
      have hc0A : Ch [] w wA := hc08.trans hch (by have := HSW.out; intro y hy; simp at hy; omega)
      by_cases hlt : k < rs.length
      · have hrM : RdB wA A' n' c' M := hr'.keep hc0A (by simp)
        obtain ⟨pb, po, rfl, hcell⟩ := hrM.cell_at0 k (by omega)
        generalize hy : M[k]'(by omega) = y at *
        have hyl := y.toNat_lt
        obtain ⟨q, hq⟩ : ∃ q : Nat, min (1 + (y.toNat : Int) % 3) ((rs.length : Int) - (k : Int)) = (q : Int) := ⟨(min (1 + (y.toNat : Int) % 3) ((rs.length : Int) - (k : Int))).toNat, by omega⟩
        obtain ⟨_, _, e4, hkC⟩ := hrA.recs [lb2, b2, g2, m2, um2] (by simp; omega)
        simp only [Value.slice.injEq, true_and] at e4
        obtain ⟨rfl, rfl⟩ := e4
        have hcapC : rs.length ≤ c6 := by
          obtain ⟨⟨vs, q1, _⟩, _, _⟩ := hkC
          exact q1.cap
        have hq2 := recs_sub hkC k q (by omega) (by omega)
        have hkq : (k : Int) + (q : Int) ≤ (c6 : Int) := by omega
        have hkc : ¬ c6 = k := by omega
        have hfs : ∀ r ∈ (rs.drop k).take q, r.length ≤ 255 := fun r hr => hbs r (List.mem_of_mem_drop (List.mem_of_mem_take hr))
        have hfl : ((rs.drop k).take q).length = q := by rw [List.length_take, List.length_drop]; omega
        have hta : rs.take (k + q) = rs.take k ++ (rs.drop k).take q := List.take_add
        obtain ⟨fs, hfe⟩ : ∃ fs, (rs.drop k).take q = fs := ⟨_, rfl⟩
        rw [hfe] at hfs hfl hq2 hta
        have hbf := bodyB_le fs 255 hfs
        have hce := commitE_fit 200 256 x fs hfs (by omega)
        have hl2 := lenF_le fs 4 (by omega)
        have hcm := commit_any _ q (c6 - k) fs wA hkA (by simp; omega) hq2 (by omega) (fun r hr => by have := hfs r hr; omega) (by omega) hce (by rw [List.length_take]; omega)
        rw [← hta] at hcm
        clear hce hfl hta hkC hq2 hfe hcapC
        go_wp2_with fail
        refine hcm.mono ?_
        rintro e wB ⟨rfl, hkB, hcB⟩
        clear hcm
        go_wp2_with fail
        go_roundw
        case rel => exact ⟨k + q, x + lenF 256 fs, by omega, by go_num, hkB, by omega, hch.trans hcB (by simp)⟩
        case measure => simp [intOf]; omega
      · obtain rfl : k = rs.length := by omega
        rw [List.take_length] at hkA
        have hlA := hl8.keep (hch.mono (by simp))
        have ho := openlog_any wA hlA.disk (by simp; omega) (by omega) (by omega) (by omega)
        have hOL := hlA.out
        go_wp2_with fail
        refine ho.mono ?_
        rintro e wb ⟨lb3, um3, A3, c3, rfl, hlb3, hum3, hl3', hr3', hcb⟩
        clear ho
        obtain ⟨_, _, e3, hq3⟩ := hr3'.recs [] (by simp)
        simp only [Value.slice.injEq, true_and] at e3
        obtain ⟨rfl, rfl⟩ := e3
        have hsb := hcb.size
        have ho := openlog_any wb (hkA.nil hcb).disk (by simp; omega) (by omega) (by omega) (by omega)
        go_wp2_with fail
        refine ho.mono ?_
        rintro e wc ⟨lb4, um4, A4, c4, rfl, hlb4, hum4, hl4', hr4', hcd⟩
        clear ho
        obtain ⟨_, _, e4, hq4⟩ := hr4'.recs [] (by simp)
        simp only [Value.slice.injEq, true_and] at e4
        obtain ⟨rfl, rfl⟩ := e4
        have hcbd := hcb.trans hcd (by simp)
        obtain ⟨_, _, e6, hq6⟩ := (hrA.nil hcbd).recs [] (by simp)
        simp only [Value.slice.injEq, true_and] at e6
        obtain ⟨rfl, rfl⟩ := e6
        have hs1 := same_any A3 A6 _ _ c3 c6 [] [] rs rs wc (hq3.nil hcd) hq6 (by omega) (by omega)
        simp only [decide_true] at hs1
        go_wp2_with fail
        refine hs1.mono ?_
        rintro e wd ⟨rfl, hce⟩
        have hs2 := same_any A4 A6 _ _ c4 c6 [] [] rs rs wd (hq4.nil hce) (hq6.nil hce) (by omega) (by omega)
        simp only [decide_true] at hs2
        go_wp2_with fail
        refine hs2.mono ?_
        rintro e we ⟨rfl, hcf⟩
        have hcAe := (hcbd.trans hce (by simp)).trans hcf (by simp)
        have hn1 := count_any we (hlA.nil hcAe)
        have hn2 := count_any we (hkA.nil hcAe)
        go_wp2_with fail
        refine hn1.mono ?_
        rintro e w' ⟨rfl, rfl⟩
        go_wp2_with fail
        refine hn2.mono ?_
        rintro e w' ⟨rfl, rfl⟩
        go_wp2_with fail
        go_ret
        exact ⟨rfl, hc0A.trans hcAe (by simp)⟩
  · by_cases hn1 : n ≤ 12
    · have hn2 : n' < n := by omega
      clear hn
      go_wp2_with fail
      go_ret
      exact ⟨rfl, hc1⟩
    · clear hn
      go_wp2_with fail
      go_ret
      exact ⟨rfl, hc1⟩

end Go.Proofs.Ytbkncfedahifkaa
