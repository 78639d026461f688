/-
  StorePlays.
-/
import Derived.Test.YtbkncfedahifkaaGreatActs5
import Derived.Test.YtbkncfedahifkaaGreatStoreBatch
set_option linter.unusedVariables false
set_option linter.unusedSimpArgs false
namespace Go.Proofs.YtbkncfedahifkaaGreat
open Go.RowKit Go.Maps Go.Sort Go.Shelf

set_option maxRecDepth 100000 in
set_option maxHeartbeats 8000000 in
theorem store_plays (A : Option Addr) (n c : Nat) (l : List ActS) (w : World) (hr : Rd 2 w A n c (l.flatMap ActS.cells)) (hn : l.length = n) (hq : ∀ x ∈ l, x.ok w) :
    Calls Tryz.prog 7 #[.slice A n c] w fun e w' => e = .returned (.bool true) ∧ Ch [] w w' := by
  have hmm := @run_makeMap Tryz.prog
  have hcc := hr.cap
  have hcm := hr.max
  have HQ := Lib.hid hq
  clear hq
  go_enter Tryz.func7, Tryz.ntmps7
  go_wp2_with fail
  refine (known5 w).mono ?_
  rintro e w1 ⟨rfl, hc1⟩
  have hli := light5_any A n c l w1 (hr.keep hc1 (by simp)) hn
  obtain ⟨lt, hlt⟩ : ∃ lt, light5L l = lt := ⟨_, rfl⟩
  rw [hlt] at hli
  go_wp2_with fail
  refine hli.mono ?_
  rintro e w' ⟨rfl, rfl⟩
  clear hli
  rcases lt with _ | _
  · go_wp2_with fail
    go_ret
    exact ⟨rfl, hc1⟩
  obtain ⟨hl30, hl5⟩ := light5L_le hlt
  have HL5 := Lib.hid hl5
  clear hlt hl5
  have hnd := newdiskS_any 400 512 [] w1 (by simp) (by omega) (by omega) (by omega) (by omega)
  rw [show ((400 : Nat) : Int) = 400 from rfl, show ((512 : Nat) : Int) = 512 from rfl] at hnd
  go_wp2_with fail
  refine hnd.mono ?_
  rintro e w2 ⟨b, g, m, rfl, hb, hg, hm, hlt2, hd2, hc2⟩
  clear hnd
  have ho := stopen_any w2 hd2 (by simp) (by omega) (by omega) (by omega)
  go_wp2_with fail
  refine ho.mono ?_
  rintro e w3 ⟨sb, lb, um, rfl, hsb, hlb, hum, hs3, hc3⟩
  clear ho hd2
  have hc03 := (hc1.trans hc2 (by simp)).trans hc3 (by simp)
  have hM4 := isM_made w3
  have hc4 : Ch [] w3 (w3.alloc (.map #[] 0)) := (Ch.refl [] w3).alloc _
  have hs4 := (hs3.add (Nat.le_refl _)).nil hc4
  have ho3 := hs3.out
  have hmmw : w.heap.size ≤ w3.heap.size := hc03.size
  go_wp2_with fail
  generalize w3.alloc (.map #[] 0) = w4 at *
  generalize hmb : w3.heap.size = mm at *
  have hz1 := hc1.size
  have hz2 := hc2.size
  have hsw : w.heap.size ≤ b ∧ w.heap.size ≤ g ∧ w.heap.size ≤ m ∧ w.heap.size ≤ mm ∧ b < mm ∧ g < mm ∧ m < mm := by omega
  have hss : w.heap.size ≤ sb ∧ w.heap.size ≤ lb ∧ w.heap.size ≤ um ∧ sb ≠ mm ∧ lb ≠ mm ∧ um ≠ mm := by omega
  have HSW := Lib.hid hsw
  have hcw4 := hc03.trans hc4 (by simp)
  clear hmm hmb hz1 hz2 hsw ho3 hmmw hc03 hc4 hc3 hc2 hc1
  go_loopw [4, 7] (fun sv ki wr => ∃ (k sb lb um turn a : Nat) (D : Mp), k ≤ n ∧ sv = .pointer (some ⟨sb, 0, none⟩) ∧ ki = .int .i64 (k : Int) ∧ StoreS wr sb lb um b g m [mm] 400 512 turn a D ∧ IsM wr mm D ∧ Seven D ∧ Bnd 3 255 D ∧ turn ≤ k ∧ a ≤ 5 + 3 * k ∧ (w.heap.size ≤ sb ∧ w.heap.size ≤ lb ∧ w.heap.size ≤ um ∧ sb ≠ mm ∧ lb ≠ mm ∧ um ≠ mm) ∧ Ch [] w wr) (fun _ ki _ => n - (intOf ki).toNat)
  case atStart => exact ⟨0, sb, lb, um, 0, 0, .map [], by omega, rfl, rfl, hs4, hM4, seven_empty, bnd_empty _ _, by omega, by omega, hss, hcw4⟩
  case round =>
    clear hs4 hM4 hss hcw4 hsb hlb hum hs3
    obtain ⟨k, sb, lb, um, turn, a, D, hk, rfl, rfl, hsA, hMA, h7, hbd, htk, hak, hss, hch⟩ := hrel
    obtain ⟨wA, hwA⟩ : ∃ W, W = wr := ⟨_, rfl⟩
    subst hwA
    have hOA := hsA.out
    have hmlt := hMA.lt
    by_cases hlt : k < n
    · obtain ⟨pb, po, rfl, hw0, hw1⟩ := acts5_cells (hr.keep hch (by simp)) k (by omega) hn
      have hxk := (HQ.out _ (List.getElem_mem (l := l) (n := k) (by omega))).nil hch
      have hx5 := HL5.out _ (List.getElem_mem (l := l) (n := k) (by omega))
      generalize l[k]'(by omega) = x at *
      obtain ⟨xw, xA, xn, xc, xl⟩ := x
      obtain ⟨hxr, hxn, hxo⟩ := hxk
      simp only at hw0 hw1 hxr hxn hxo hx5
      have hmem : ∀ y ∈ [mm], y < wA.heap.size := by intro y hy; rw [List.mem_singleton] at hy; subst hy; exact hmlt
      by_cases h5 : xw = 5
      · subst h5
        have hsl := hsA.seven_len h7
        have hpb := bnd_pairs hbd hsA.strMap hsA.small
        have hpl := pairsOf_len D
        have hcp := stcompact_any wA hsA hmem (by omega) (by omega) (commitP_fit 400 512 0 3 255 (pairsOf D) hpb (by omega) (by omega))
        have hln := lenP_le 512 3 255 5 (pairsOf D) hpb (by omega) (by omega)
        have HLN := Lib.hid hln
        clear hpb hpl hln hsl
        go_wp2_with fail
        refine hcp.mono ?_
        rintro e wB ⟨rfl, hsB, hcB⟩
        clear hcp
        have hMB := hMA.keep hcB (by have := HSW.out; simp; omega)
        have hcwB := hch.trans hcB (by have := HSW.out; intro y hy; simp at hy; omega)
        have hal := alike_any mm wB hsB hMB h7
        go_wp2_with fail
        refine hal.mono ?_
        rintro e wC ⟨rfl, hcC⟩
        clear hal
        go_wp2_with fail
        refine ⟨⟨k + 1, sb, lb, um, turn + 1, _, D, by omega, rfl, by go_num, hsB.nil hcC, hMB.keep hcC (by simp), h7, hbd, by omega, by have := HLN.out; omega, hss, hcwB.trans hcC (by simp)⟩, ?_⟩
        simp [intOf]
        omega
      by_cases h6 : xw = 6
      · subst h6
        have ho := stopen_any wA hsA.disk (by simp; omega) (by omega) (by omega) (by omega)
        go_wp2_with fail
        refine ho.mono ?_
        rintro e wB ⟨sb2, lb2, um2, rfl, hsb2, hlb2, hum2, hsB, hcB⟩
        clear ho
        have hsB2 := hsB.sub (Y := [mm]) (by simp)
        have hMB := hMA.keep hcB (by simp)
        have hcwB := hch.trans hcB (by simp)
        have hwa := hch.size
        have hal := alike_any mm wB hsB2 hMB h7
        clear hsB
        go_wp2_with fail
        refine hal.mono ?_
        rintro e wC ⟨rfl, hcC⟩
        clear hal
        go_wp2_with fail
        refine ⟨⟨k + 1, sb2, lb2, um2, turn, a, D, by omega, rfl, by go_num, hsB2.nil hcC, hMB.keep hcC (by simp), h7, hbd, by omega, by omega, by omega, hcwB.trans hcC (by simp)⟩, ?_⟩
        simp [intOf]
        omega
      · have hszD : Maps.size D ≤ 1000000 := by
          have h1 := hsA.seven_len h7
          rw [(keysL_perm D).length_eq] at h1
          obtain ⟨es, rfl⟩ := hsA.strMap.isMap
          simp only [strKeys, List.length_map] at h1
          rw [size_eq]
          omega
        have hpr := pairs5_any k xA xn xc xl mm D wA hxr hxn hxo hMA (by omega) (by omega) hszD
        have HX5 := Lib.hid hx5
        clear hszD hxn hxo hx5
        go_wp2_with fail
        refine hpr.mono ?_
        rintro e wB ⟨vB, ps, rfl, hrB, hpl, hgp, hMB, hcB⟩
        clear hpr
        obtain ⟨AB, cB, rfl⟩ := own_slice hrB
        have hsB := hsA.keep (hcB.mono (by simp))
        have hfit := hgp.fits
        have h7B := hgp.seven h7
        have hbdB := bnd_chgs hbd hsA.strMap.isMap (fun p hp => (hfit p hp).2)
        have hmemB : ∀ y ∈ [mm], y < wB.heap.size := by intro y hy; rw [List.mem_singleton] at hy; subst hy; exact hMB.lt
        have ha := stapply_any AB xn cB ps wB hsB hmemB (own_rd hrB) hpl (by have := HX5.out; omega) (fun p hp => (hgp p hp).1) (by omega) (commitP_fit 400 512 a 3 255 ps hfit (by omega) (by have := HX5.out; omega))
        have hln := lenP_le 512 3 255 3 ps hfit (by omega) (by have := HX5.out; omega)
        have HLN := Lib.hid hln
        clear hfit hgp hpl hln hrB
        go_wp2_with fail
        refine ha.mono ?_
        rintro e wC ⟨rfl, hsC, hcC⟩
        clear ha
        have hMC := hMB.keep hcC (by have := HSW.out; simp; omega)
        have hcwB : Ch [] w wB := hch.trans hcB (by have := HSW.out; simp; omega)
        have hcwC := hcwB.trans hcC (by have := HSW.out; intro y hy; simp at hy; omega)
        have hal := alike_any mm wC hsC hMC h7B
        go_wp2_with fail
        refine hal.mono ?_
        rintro e wD ⟨rfl, hcD⟩
        clear hal
        go_wp2_with fail
        refine ⟨⟨k + 1, sb, lb, um, turn, _, _, by omega, rfl, by go_num, hsC.nil hcD, hMC.keep hcD (by simp), h7B, hbdB, by omega, by have := HLN.out; omega, hss, hcwC.trans hcD (by simp)⟩, ?_⟩
        simp [intOf]
        omega
    · obtain rfl : k = n := by omega
      clear hlt hk
      have hdn := stdown_any wA hsA
      go_wp2_with fail
      refine hdn.mono ?_
      rintro e w' ⟨rfl, rfl⟩
      go_wp2_with fail
      go_ret
      exact ⟨rfl, hch⟩

end Go.Proofs.YtbkncfedahifkaaGreat
