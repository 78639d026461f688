/-
  WalResets.
-/
import Derived.Test.YtbkncfedahifkaaWalGreat
set_option linter.unusedVariables false
set_option linter.unusedSimpArgs false
namespace Go.Proofs.Ytbkncfedahifkaa
open Go.RowKit Go.Maps

theorem lenF_le (f : List (List UInt8)) (m : Nat) (h : 32 + (bodyB f).length ≤ m * 240) : lenF 256 f ≤ m := secsN_le 240 _ m (by omega) h

set_option maxRecDepth 100000 in
set_option maxHeartbeats 4000000 in
theorem wal_resets (a : Int) (A : Option Addr) (n c : Nat) (L : List UInt8) (w : World) (hr : RdB w A n c L) (ha0 : 0 ≤ a) (ha1 : a < 256) :
    Calls Try.prog 15 #[.int .u8 a, .slice A n c] w fun e w' => e = .returned (.bool true) ∧ Ch [] w w' := by
  have hl := hr.length
  have hcc := hr.cap
  have hcm := hr.max
  go_enter Try.func15, Try.ntmps15
  go_wp2_with fail
  refine (known4 w).mono ?_
  rintro e w1 ⟨rfl, hc1⟩
  by_cases hn : n ≤ 6
  · have hnd := newdisk_any 80 256 [] w1 (by simp) (by omega) (by omega) (by omega) (by omega)
    rw [show ((80 : Nat) : Int) = 80 from rfl, show ((256 : Nat) : Int) = 256 from rfl] at hnd
    go_wp2_with fail
    refine hnd.mono ?_
    rintro e w2 ⟨b, g, m, rfl, hb, hg, hm, hd2, hc2⟩
    clear hnd
    have ho := openlog_any w2 hd2 (by simp) (by omega) (by omega) (by omega)
    simp only [List.length_nil] at ho
    go_wp2_with fail
    refine ho.mono ?_
    rintro e w3 ⟨lb, um, A0, c0, rfl, hlb, hum, hl3, hr3, hc3⟩
    clear ho
    have hc03 := (hc1.trans hc2 (by simp)).trans hc3 (by simp)
    have hba := batch_any 2 A n c L w3 (hr.keep hc03 (by simp)) (by omega) (by omega)
    rw [show ((2 : Nat) : Int) = 2 from rfl] at hba
    have hO := hl3.out
    go_wp2_with fail
    refine hba.mono ?_
    rintro e w4 ⟨v4, rfl, hr4, hc4⟩
    clear hba
    have hbl := batchL_length 2 L
    have hbs := batchL_small 2 L
    obtain ⟨rs, hrs⟩ : ∃ rs, batchL 2 L = rs := ⟨_, rfl⟩
    rw [hrs] at hbl hbs hr4
    obtain ⟨A4, c4, rfl, _⟩ := hr4.recs [] (by simp)
    have hby := bodyB_le rs 255 hbs
    have hce := commitE_fit 80 256 0 rs hbs (by omega)
    have hlf := lenF_le rs 7 (by omega)
    have hl4 := hl3.nil hc4
    have hbs0 := hbs
    have HBL := Lib.hid hbl
    have HCE := Lib.hid hce
    have hsz4 := hc4.size
    have hcw : Ch [] w w4 := hc03.trans hc4 (by simp)
    have hsw : w.heap.size ≤ lb ∧ w.heap.size ≤ um ∧ w.heap.size ≤ b ∧ w.heap.size ≤ g ∧ w.heap.size ≤ m := by
      have := hc1.size
      have := hc2.size
      omega
    have HSW := Lib.hid hsw
    clear hce hbl hr3 hd2 hsw hc1 hc2 hc3 hc03 hl3
    obtain ⟨q, hq⟩ : ∃ q : Nat, (q : Int) = a % 40 := ⟨(a % 40).toNat, by omega⟩
    go_wp2_with fail
    go_loopw [10] (fun ki wr => ∃ (k : Nat) (x : Nat) (ss : List (List UInt8)), k ≤ q + 1 ∧ ki = .int .i64 (k : Int) ∧ Logg wr lb um b g m [] 80 256 k x ss ∧ x ≤ 7 ∧ (0 < k → ss = rs) ∧ ss.length ≤ 10 ∧ Ch [lb, b, g, m, um] w4 wr) (fun ki _ => q + 1 - (intOf ki).toNat)
    case atStart => exact ⟨0, 0, [], by omega, rfl, hl4, by omega, by omega, by simp, Ch.refl _ _⟩
    case round =>
      obtain ⟨k, x, ss, hk, rfl, hlk, hx, hss, hsl, hch⟩ := hrel
      obtain ⟨wA, hwA⟩ : ∃ W, W = wr := ⟨_, rfl⟩
      subst hwA
      have hrA := hr4.keep hch (by simp; omega)
      have hsA := hch.size
      have hOA := hlk.out
      have HSS := Lib.hid hss
      clear hss
      by_cases hlt : k < q + 1
      · have hra : RdB (wA.alloc (.cells #[.int .u8 255, .int .u8 255, .int .u8 255] 5)) (some ⟨wA.heap.size, 0, none⟩) 3 3 [255, 255, 255] := rd_block (t := 5) (fr := (0, 0)) [255, 255, 255] (push_last _ _ _ rfl) (by simp [maxLen])
        have hba := batch_any k _ _ _ _ _ hra (by omega) (by omega)
        have hcaA : Ch [] wA (wA.alloc (.cells #[.int .u8 255, .int .u8 255, .int .u8 255] 5)) := (Ch.refl [] wA).alloc _
        go_wp2_with fail
        refine hba.mono ?_
        rintro e wB ⟨vB, rfl, hrB, hcB⟩
        clear hba hra
        have hcAB := hcaA.trans hcB (by simp)
        have hbl := batchL_length k [255, 255, 255]
        have hbs := batchL_small k [255, 255, 255]
        obtain ⟨bs, hbe⟩ : ∃ bs, batchL k [255, 255, 255] = bs := ⟨_, rfl⟩
        rw [hbe] at hbl hbs hrB
        simp only [List.length_cons, List.length_nil] at hbl
        have hsa := hcaA.size
        obtain ⟨AB, cB, rfl, hkB⟩ := hrB.recs [lb, b, g, m, um] (by simp; omega)
        have hbb := bodyB_le bs 255 hbs
        have hcE := commitE_fit 80 256 x bs hbs (by omega)
        have hcm2 := commit_any AB _ cB bs wB (hlk.nil hcAB) (by simp) hkB (by omega) (fun r hr => by have := hbs r hr; omega) (by omega) hcE (by omega)
        clear hcE hrB hbl
        go_wp2_with fail
        refine hcm2.mono ?_
        rintro e wC ⟨rfl, hlC, hcC⟩
        clear hcm2 hkB
        have hcAC : Ch [lb, b, g, m, um] wA wC := (hcAB.mono (by simp)).trans hcC (by simp)
        have hrC := hrA.keep hcAC (by simp; omega)
        have hsC := hcAC.size
        obtain ⟨_, _, e4, hkC⟩ := hrC.recs [lb, b, g, m, um] (by simp; omega)
        simp only [Value.slice.injEq, true_and] at e4
        obtain ⟨rfl, rfl⟩ := e4
        have hrs2 := reset_any A4 _ c4 rs wC hlC (by simp) hkC (by have := HBL.out; omega) (fun r hr => by have := hbs0 r hr; omega) (by omega) HCE.out
        clear hcAB hcB hcaA hcC
        go_wp2_with fail
        refine hrs2.mono ?_
        rintro e wD ⟨rfl, hlD, hcD⟩
        clear hrs2 hkC
        have hcAD := hcAC.trans hcD (by simp)
        have hct := count_any wD hlD
        go_wp2_with fail
        refine hct.mono ?_
        rintro e w' ⟨rfl, rfl⟩
        go_wp2_with fail
        refine ⟨⟨k + 1, lenF 256 rs, rs, by omega, by go_num, hlD, hlf, fun _ => rfl, by have := HBL.out; omega, hch.trans hcAD (by simp)⟩, ?_⟩
        simp [intOf]
        omega
      · obtain rfl : k = q + 1 := by omega
        obtain rfl : ss = rs := HSS.out (by omega)
        have hdA := hlk.disk
        have ho := openlog_any wA hdA (by simp; omega) (by omega) (by omega) (by omega)
        go_wp2_with fail
        refine ho.mono ?_
        rintro e wb ⟨lb2, um2, A2, c2, rfl, hlb2, hum2, hl2, hr2, hcb⟩
        clear ho
        obtain ⟨_, _, e2, hk2⟩ := hr2.recs [] (by simp)
        simp only [Value.slice.injEq, true_and] at e2
        obtain ⟨rfl, rfl⟩ := e2
        obtain ⟨_, _, e4, hk4⟩ := (hrA.nil hcb).recs [] (by simp)
        simp only [Value.slice.injEq, true_and] at e4
        obtain ⟨rfl, rfl⟩ := e4
        have hsm := same_any A2 A4 _ _ c2 c4 [] [] ss ss wb hk2 hk4 (by omega) (by omega)
        simp only [decide_true] at hsm
        have hcF : Ch [] w wb := (hcw.trans hch (by have := HSW.out; intro y hy; simp at hy; omega)).trans hcb (by simp)
        go_wp2_with fail
        refine hsm.mono ?_
        rintro e wc ⟨rfl, hcc⟩
        go_wp2_with fail
        go_ret
        exact ⟨rfl, hcF.trans hcc (by simp)⟩
  · go_wp2_with fail
    go_ret
    exact ⟨rfl, hc1⟩

end Go.Proofs.Ytbkncfedahifkaa
