/-
  StoreRounds.
-/
import Derived.Test.YtbkncfedahifkaaGreatStFull
import Derived.Test.YtbkncfedahifkaaGreatActs5
import Derived.Test.YtbkncfedahifkaaGreatStoreBatch
set_option linter.unusedVariables false
set_option linter.unusedSimpArgs false
namespace Go.Proofs.YtbkncfedahifkaaGreat
open Go.RowKit Go.Maps Go.Sort Go.Shelf

theorem bounds_u16' {n : Int} (h : (Lit.int .u16 n).wf = true) : 0 ≤ n ∧ n ≤ 65535 := by
  simpa [Lit.wf, IntKind.min, IntKind.max, IntKind.signed, IntKind.bits] using h

theorem strMap_seven {D : Mp} (h : StrMap D) (h7 : Seven D) : (keysL D).length ≤ 7 := by
  have hm := here_mem h7
  obtain ⟨es, rfl, h1, h2, h3⟩ := h
  have hp := perm_strKeys (apart_of_rising h1) (fun p hp => keysOf_str (h2 p hp)) (here_nodup (.map es)) hm
  rw [(keysL_perm _).length_eq, ← hp.length_eq]
  exact here_len _ 7
section
variable {sb lb um b g m turn a : Nat} {X : List Nat} {D : Mp}
/-- One pair more, in a log that may be full. -/
theorem rounds_apply (A : Option Addr) (p : PairL) (w : World) (h : StoreS w sb lb um b g m X 200 256 turn a D) (hX : ∀ x ∈ X, x < w.heap.size) (hr : Rd 3 w A 1 1 ([p].flatMap PairL.cells)) (hk : p.k.length ≤ 3) (hv : p.v.length ≤ 255) (h7p : ∃ j, j < 7 ∧ p.k = keyN j) (h7 : Seven D) (hb : Bnd 3 255 D)
    (ht : turn < 1000) (ha : a ≤ 100) :
    Calls Tryz.prog 15 #[.pointer (some ⟨sb, 0, none⟩), .slice A 1 1] w fun e w' => e = .returned (.int .i64 0) ∧ ∃ turn' a', turn' ≤ turn + 1 ∧ a' ≤ 100 ∧ StoreS w' sb lb um b g m X 200 256 turn' a' (chgs D [p]) ∧ Ch [sb, lb, um, b, g, m] w w' := by
  have hok : ∀ q ∈ [p], q.ok ∧ q.k.length ≤ 3 ∧ q.v.length ≤ 255 := by
    intro q hq
    rw [List.mem_singleton] at hq
    subst hq
    exact ⟨⟨by omega, by omega⟩, hk, hv⟩
  have hok1 : ∀ q ∈ [p], q.ok := fun q hq => (hok q hq).1
  have hle := encPs_le hok
  by_cases hf : 32 + (bodyB ([p].map encP)).length ≤ (200 / 2 - a) * (256 - 16)
  · refine (stapply_any A 1 1 [p] w h hX hr rfl (by omega) hok1 (by omega) (commitE_fit 200 256 a _ (fun r hr => by have := hle r hr; omega) hf)).mono ?_
    rintro e w' ⟨rfl, h1, h2⟩
    have hl : lenF 256 ([p].map encP) ≤ 100 - a := secsN_le 240 _ (100 - a) (by omega) hf
    exact ⟨rfl, turn, _, by omega, by omega, h1, h2⟩
  · have hstr := strMap_chgs h.strMap hok1
    have h79 : Seven (chgs D [p]) := seven_chgs h7 (by intro q hq; rw [List.mem_singleton] at hq; subst hq; exact h7p)
    have hb9 : Bnd 3 255 (chgs D [p]) := bnd_chgs hb (strMap_isMap h.strMap) (fun q hq => (hok q hq).2)
    have hlen := strMap_seven hstr h79
    have hsm := small_chgs h.small (strMap_isMap h.strMap) hok1
    have hpb := bnd_pairs hb9 hstr hsm
    have hpl := pairsOf_len (chgs D [p])
    refine (stapply_full A 1 1 [p] w h hX hr rfl (by omega) hok1 (by omega) (commitE_full 200 256 a _ (fun r hr => by have := hle r hr; omega) (by omega)) (commitP_fit 200 256 0 3 255 _ hpb (by omega) (by omega)) (by omega)).mono ?_
    rintro e w' ⟨rfl, h1, h2⟩
    have hl := lenP_le 256 3 255 10 _ hpb (by omega) (by omega)
    exact ⟨rfl, turn + 1, _, by omega, by omega, h1, h2⟩
end

set_option maxRecDepth 100000 in
set_option maxHeartbeats 8000000 in
theorem store_rounds (a0 : Int) (A : Option Addr) (n c : Nat) (L : List UInt8) (w : World) (ha0 : 0 ≤ a0) (ha1 : a0 < 65536) (hr : RdB w A n c L) :
    Calls Tryz.prog 5 #[.int .u16 a0, .slice A n c] w fun e w' => e = .returned (.bool true) ∧ Ch [] w w' := by
  have hmm := @run_makeMap Tryz.prog
  have hl := hr.length
  have hcc := hr.cap
  have hcm := hr.max
  go_enter Tryz.func5, Tryz.ntmps5
  go_wp2_with fail
  refine (known5 w).mono ?_
  rintro e w1 ⟨rfl, hc1⟩
  by_cases hn0 : n = 0
  · subst hn0
    go_wp2_with fail
    go_ret
    exact ⟨rfl, hc1⟩
  have hn0b : ((n : Int) == 0) = false := by simpa using hn0
  have hn0' : ¬ (n : Int) = 0 := by omega
  by_cases hn10 : n ≤ 10
  case neg =>
    go_wp2_with fail
    go_ret
    exact ⟨rfl, hc1⟩
  have hnd := newdiskS_any 200 256 [] w1 (by simp) (by omega) (by omega) (by omega) (by omega)
  rw [show ((200 : Nat) : Int) = 200 from rfl, show ((256 : Nat) : Int) = 256 from rfl] at hnd
  go_wp2_with fail
  refine hnd.mono ?_
  rintro e w2 ⟨b, g, m, rfl, hb, hg, hm, hlt2, hd2, hc2⟩
  clear hnd
  have ho := stopen_any w2 hd2 (by simp) (by omega) (by omega) (by omega)
  go_wp2_with fail
  refine ho.mono ?_
  rintro e w3 ⟨sb, lb, um, rfl, hsb, hlb, hum, hs3, hc3⟩
  clear ho hd2
  have hc03 := (hc1.trans hc2 (by simp)).trans hc3 (by simp)
  have hM4 := isM_made w3
  have hc4 : Ch [] w3 (w3.alloc (.map #[] 0)) := (Ch.refl [] w3).alloc _
  have hs4 := (hs3.add (Nat.le_refl _)).nil hc4
  have ho3 := hs3.out
  have hmmw : w.heap.size ≤ w3.heap.size := hc03.size
  obtain ⟨q, hq⟩ : ∃ q : Nat, (q : Int) = a0 % 300 := ⟨(a0 % 300).toNat, by omega⟩
  have hq300 : q < 300 := by omega
  go_wp2_with fail
  generalize w3.alloc (.map #[] 0) = w4 at *
  generalize hmb : w3.heap.size = mm at *
  have hz1 := hc1.size
  have hz2 := hc2.size
  have hsw : w.heap.size ≤ b ∧ w.heap.size ≤ g ∧ w.heap.size ≤ m ∧ w.heap.size ≤ mm ∧ b < mm ∧ g < mm ∧ m < mm ∧ w.heap.size ≤ sb ∧ w.heap.size ≤ lb ∧ w.heap.size ≤ um ∧ sb < mm ∧ lb < mm ∧ um < mm := by omega
  have HSW := Lib.hid hsw
  have hcw4 := hc03.trans hc4 (by simp)
  clear hmm hmb hz1 hz2 hsw ho3 hmmw hc03 hc4 hc3 hc2 hc1 hs3 hsb hlb hum
  go_loopw [9] (fun ki wr => ∃ (k turn a : Nat) (D : Mp), k ≤ q ∧ ki = .int .i64 (k : Int) ∧ StoreS wr sb lb um b g m [mm] 200 256 turn a D ∧ IsM wr mm D ∧ Seven D ∧ Bnd 3 255 D ∧ turn ≤ k ∧ a ≤ 100 ∧ Ch [] w wr) (fun ki _ => q - (intOf ki).toNat)
  case atStart => exact ⟨0, 0, 0, .map [], by omega, rfl, hs4, hM4, seven_empty, bnd_empty _ _, by omega, by omega, hcw4⟩
  case round =>
    clear hs4 hM4 hcw4
    obtain ⟨k, turn, a, D, hk, rfl, hsA, hMA, h7, hbd, htk, hak, hch⟩ := hrel
    obtain ⟨wA, hwA⟩ : ∃ W, W = wr := ⟨_, rfl⟩
    subst hwA
    have hmlt := hMA.lt
    by_cases hlt : k < q
    · obtain ⟨r, hr3⟩ : ∃ r : Nat, r = k % 3 := ⟨_, rfl⟩
      have hr7 : r < 7 := by omega
      have hr1 : (k : Int).tmod 3 = (r : Int) := by rw [Int.tmod_eq_emod_of_nonneg (by omega)]; omega
      have hr2 : IntKind.u8.wrap (r : Int) = (r : Int) := by rw [IntKind.wrap_u8]; omega
      obtain ⟨j, hj⟩ : ∃ j : Nat, j = k % n := ⟨_, rfl⟩
      have hjn : j < n := by rw [hj]; exact Nat.mod_lt _ (by omega)
      have hj1 : (k : Int).tmod (n : Int) = (j : Int) := by rw [Int.tmod_eq_emod_of_nonneg (by omega), hj]; rfl
      have hjn2 : (j : Int) < (n : Int) := by omega
      have hrA : RdB wA A n c L := hr.keep hch (by simp)
      obtain ⟨pb, po, rfl, hcell⟩ := hrA.cell_at0 j (by omega)
      have hzl := (L[j]'(by omega)).toNat_lt
      generalize (L[j]'(by omega)).toNat = z at *
      have hzw : IntKind.i64.wrap (z : Int) = (z : Int) := by rw [IntKind.wrap_i64]; omega
      have hky := fun W => key5_at (r : Int) r hr7 (by omega) (by omega) W
      have hvl := fun W => value5_any k z W (by omega) (by omega)
      have hkl := keyN_le r
      have HR3 := Lib.hid hr3
      have HJ := Lib.hid hj
      clear hr3 hj hrA
      go_wp2_with fail
      refine dr_begin (by kernel_rfl) ?_
      have hcw : Ch [] wA wA.drew := (Ch.refl _ _).drew
      generalize wA.drew = w0 at *
      refine dr_more (fun W => W.cell? ⟨pb, po + j, none⟩ = some (.int .u8 (z : Int))) ?_
      have mkT : ∀ W, Ch [] wA W → True ∧ (W.cell? ⟨pb, po + j, none⟩ = some (.int .u8 (z : Int))) := fun W hW => ⟨trivial, hW.cell hcell (by simp)⟩
      have MK := Lib.hid mkT
      clear mkT
      have hT := MK.out _ hcw
      refine dr_take 0 (some 40) (v := ?_) rfl rfl (by kernel_rfl) (by kernel_rfl) (by kernel_rfl) (fun _ _ _ h => h) rfl hT (fun W _ => ?_) ?_
      rotate_left
      · (go_simp; try with_reducible rfl)
      try simp only [Act.put, List.setIfInBounds_toArray, List.set_cons_zero, List.set_cons_succ]
      refine dr_take 1 (some 41) (v := ?_) rfl rfl (by kernel_rfl) (by kernel_rfl) (by kernel_rfl) (fun _ _ _ h => h) rfl hT (fun W _ => ?_) ?_
      rotate_left
      · (go_simp; try with_reducible rfl)
      try simp only [Act.put, List.setIfInBounds_toArray, List.set_cons_zero, List.set_cons_succ]
      refine dr_take 2 (some 42) (v := ?_) rfl rfl (by kernel_rfl) (by kernel_rfl) (by kernel_rfl) (fun _ _ _ h => h) rfl hT (fun W _ => ?_) ?_
      rotate_left
      · (go_simp; try with_reducible rfl)
      try simp only [Act.put, List.setIfInBounds_toArray, List.set_cons_zero, List.set_cons_succ]
      refine dr_take 4 (some 44) (v := ?_) rfl rfl (by kernel_rfl) (by kernel_rfl) (by kernel_rfl) (fun _ _ _ h => h) rfl hT (fun W _ => ?_) ?_
      rotate_left
      · (go_simp; try with_reducible rfl)
      try simp only [Act.put, List.setIfInBounds_toArray, List.set_cons_zero, List.set_cons_succ]
      refine dr_take 5 (some 45) (v := ?_) rfl rfl (by kernel_rfl) (by kernel_rfl) (by kernel_rfl) (fun _ _ _ h => h) rfl hT (fun W _ => ?_) ?_
      rotate_left
      · (go_simp; try with_reducible rfl)
      try simp only [Act.put, List.setIfInBounds_toArray, List.set_cons_zero, List.set_cons_succ]
      refine dr_take 6 (some 46) (v := ?_) rfl rfl (by kernel_rfl) (by kernel_rfl) (by kernel_rfl) (fun _ _ _ h => h) rfl hT (fun W _ => ?_) ?_
      rotate_left
      · (go_simp; try with_reducible rfl)
      try simp only [Act.put, List.setIfInBounds_toArray, List.set_cons_zero, List.set_cons_succ]
      refine dr_take 7 (some 47) (v := ?_) rfl rfl (by kernel_rfl) (by kernel_rfl) (by kernel_rfl) (fun _ _ _ h => h) rfl hT (fun W _ => ?_) ?_
      rotate_left
      · (go_simp; try with_reducible rfl)
      try simp only [Act.put, List.setIfInBounds_toArray, List.set_cons_zero, List.set_cons_succ]
      refine dr_take 8 (some 48) (v := ?_) rfl rfl (by kernel_rfl) (by kernel_rfl) (by kernel_rfl) (fun _ _ _ h => h) rfl hT (fun W _ => ?_) ?_
      rotate_left
      · (go_simp; try with_reducible rfl)
      try simp only [Act.put, List.setIfInBounds_toArray, List.set_cons_zero, List.set_cons_succ]
      refine dr_take 9 (some 49) (v := ?_) rfl rfl (by kernel_rfl) (by kernel_rfl) (by kernel_rfl) (fun _ _ _ h => h) rfl hT (fun W _ => ?_) ?_
      rotate_left
      · (go_simp; try with_reducible rfl)
      try simp only [Act.put, List.setIfInBounds_toArray, List.set_cons_zero, List.set_cons_succ]
      refine dr_take 10 (some 50) (v := ?_) rfl rfl (by kernel_rfl) (by kernel_rfl) (by kernel_rfl) (fun _ _ _ h => h) rfl hT (fun W _ => ?_) ?_
      rotate_left
      · (go_simp; try with_reducible rfl)
      try simp only [Act.put, List.setIfInBounds_toArray, List.set_cons_zero, List.set_cons_succ]
      refine dr_take 11 (some 51) (v := ?_) rfl rfl (by kernel_rfl) (by kernel_rfl) (by kernel_rfl) (fun _ _ _ h => h) rfl hT (fun W hW => ?_) ?_
      rotate_left
      · (have h1 := hW.2; go_simp; try with_reducible rfl)
      try simp only [Act.put, List.setIfInBounds_toArray, List.set_cons_zero, List.set_cons_succ]
      refine dr_take 12 (some 52) (v := ?_) rfl rfl (by kernel_rfl) (by kernel_rfl) (by kernel_rfl) (fun _ _ _ h => h) rfl hT (fun W _ => ?_) ?_
      rotate_left
      · (go_simp; try with_reducible rfl)
      try simp only [Act.put, List.setIfInBounds_toArray, List.set_cons_zero, List.set_cons_succ]
      refine dr_step 3 rfl (by kernel_rfl) rfl (fun K hK => ?_)
      go_simp
      refine (hky _).mono ?_
      rintro e w5 ⟨rfl, hc5⟩
      have hcw := hcw.trans hc5 (by simp)
      refine hK.out _ _ (MK.out _ hcw) ?_
      have hT := MK.out _ hcw
      clear hK K
      try simp only [Act.put, List.setIfInBounds_toArray, List.set_cons_zero, List.set_cons_succ]
      refine dr_step 13 rfl (by kernel_rfl) rfl (fun K hK => ?_)
      go_simp
      refine (hvl _).mono ?_
      rintro e w6 ⟨vv, hvv, rfl, hc6⟩
      have hcw := hcw.trans hc6 (by simp)
      refine hK.out _ _ (MK.out _ hcw) ?_
      have hT := MK.out _ hcw
      clear hK K
      try simp only [Act.put, List.setIfInBounds_toArray, List.set_cons_zero, List.set_cons_succ]
      refine dr_take 14 (some 10) (v := ?_) rfl rfl (by kernel_rfl) (by kernel_rfl) (by kernel_rfl) (fun _ _ _ h => h) rfl hT (fun W _ => ?_) ?_
      rotate_left
      · (go_simp; try with_reducible rfl)
      try simp only [Act.put, List.setIfInBounds_toArray, List.set_cons_zero, List.set_cons_succ]
      refine dr_take 15 (some 11) (v := ?_) rfl rfl (by kernel_rfl) (by kernel_rfl) (by kernel_rfl) (fun _ _ _ h => h) rfl hT (fun W _ => ?_) ?_
      rotate_left
      · (go_simp; try with_reducible rfl)
      try simp only [Act.put, List.setIfInBounds_toArray, List.set_cons_zero, List.set_cons_succ]
      refine dr_done (by kernel_rfl) ?_
      go_wp2_with fail
      generalize hw0x : w6 = w0x at *
      clear hw0x
      have hcX : Ch [] w0x (w0x.alloc (.cells #[.string (str (keyN r)), .string (str vv), .bool false] 32)) := (Ch.refl [] w0x).alloc _
      have hsX := hsA.nil (hcw.trans hcX (by simp))
      have hMX := hMA.keep (hcw.trans hcX (by simp)) (by simp)
      have hbX := heap_alloc_new w0x (.cells #[.string (str (keyN r)), .string (str vv), .bool false] 32)
      have hap := rounds_apply (some ⟨w0x.heap.size, 0, none⟩) ⟨keyN r, vv, false⟩ _ hsX (by intro y hy; rw [List.mem_singleton] at hy; subst hy; exact hMX.lt) (pairs_one (p := ⟨keyN r, vv, false⟩) hbX) (show (keyN r).length ≤ 3 from hkl) (show vv.length ≤ 255 by omega) ⟨r, hr7, rfl⟩ h7 hbd (by omega) hak
      have hszD : Maps.size D ≤ 7 := by rw [size_keysL (strMap_isMap hsA.strMap)]; exact hsA.seven_len h7
      clear hky hvl hT MK hbX
      refine hap.mono ?_
      rintro e wC ⟨rfl, turn', a', ht', ha', hsC, hcC⟩
      clear hap
      have hMC := hMX.keep hcC (by have := HSW.out; simp; omega)
      obtain ⟨w9, hrun, hM9, hc9⟩ := hMC.store (keyN r) vv (by omega) (by omega) (by omega)
      have hs9 := hsC.keep hc9
      have h79 : Seven (chgs D [⟨keyN r, vv, false⟩]) := seven_chgs h7 (by intro q hq; rw [List.mem_singleton] at hq; subst hq; exact ⟨r, hr7, rfl⟩)
      have hb9 : Bnd 3 255 (chgs D [⟨keyN r, vv, false⟩]) := bnd_chgs hbd (strMap_isMap hsA.strMap) (by intro q hq; rw [List.mem_singleton] at hq; subst hq; exact ⟨hkl, by show vv.length ≤ 255; omega⟩)
      have hcw9 : Ch [] w w9 := ((hch.trans (hcw.trans hcX (by simp)) (by simp)).trans hcC (by have := HSW.out; intro y hy; simp at hy; omega)).trans hc9 (by have := HSW.out; simp; omega)
      go_wp2_with fail
      refine ⟨⟨k + 1, turn', a', _, by omega, by go_num, hs9, hM9, h79, hb9, by omega, ha', hcw9⟩, ?_⟩
      simp [intOf]
      omega
    · obtain rfl : k = q := by omega
      clear hlt hk
      have hal := alike_any mm wA hsA hMA h7
      go_wp2_with fail
      refine hal.mono ?_
      rintro e wB ⟨rfl, hcB⟩
      clear hal
      have hOA := hsA.out
      have hsz := hcB.size
      have ho := stopen_any wB (hsA.disk.nil hcB) (by simp; omega) (by omega) (by omega) (by omega)
      go_wp2_with fail
      refine ho.mono ?_
      rintro e wC ⟨sb2, lb2, um2, rfl, hsb2, hlb2, hum2, hsC, hcC⟩
      clear ho
      have hal := alike_any mm wC hsC ((hMA.keep hcB (by simp)).keep hcC (by simp)) h7
      go_wp2_with fail
      refine hal.mono ?_
      rintro e wD ⟨rfl, hcD⟩
      clear hal
      go_wp2_with fail
      go_ret
      exact ⟨rfl, ((hch.trans hcB (by simp)).trans hcC (by simp)).trans hcD (by simp)⟩

end Go.Proofs.YtbkncfedahifkaaGreat
