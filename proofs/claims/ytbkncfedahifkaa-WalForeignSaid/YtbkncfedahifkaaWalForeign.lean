/-
  WalForeign.
-/
import Derived.Test.YtbkncfedahifkaaWHeld
import Derived.Test.YtbkncfedahifkaaPlace
set_option linter.unusedVariables false
set_option linter.unusedSimpArgs false
namespace Go.Proofs.Ytbkncfedahifkaa
open Go.RowKit Go.Maps

theorem xor_byte (a b : UInt8) : ∃ c : UInt8, bits BinOp.xor IntKind.u8 (a.toNat : Int) (b.toNat : Int) = (c.toNat : Int) := by
  have h : 0 ≤ bits BinOp.xor IntKind.u8 (a.toNat : Int) (b.toNat : Int) ∧ bits BinOp.xor IntKind.u8 (a.toNat : Int) (b.toNat : Int) < 256 := by
    simp only [bits, IntKind.wrap_u8]
    omega
  obtain ⟨c, _, hc⟩ := bv_of _ h.1 h.2
  exact ⟨c, hc.symm⟩

set_option maxRecDepth 100000 in
set_option maxHeartbeats 4000000 in
theorem wal_foreign (A : Option Addr) (n c : Nat) (zs : List Nat) (A' : Option Addr) (n' c' : Nat) (M : List UInt8) (A'' : Option Addr) (n'' c'' : Nat) (L : List UInt8) (w : World)
    (hr : Rd 1 w A n c (zs.map fun (x : Nat) => Value.int .u16 (x : Int))) (hz : ∀ x ∈ zs, x < 65536) (hr' : RdB w A' n' c' M) (hr'' : RdB w A'' n'' c'' L) :
    Calls Try.prog 13 #[.slice A n c, .slice A' n' c', .slice A'' n'' c''] w fun e w' => e = .returned (.bool true) ∧ Ch [] w w' := by
  have hl : zs.length = n := by have := hr.len; simpa using this
  have hcc := hr.cap
  have hcm := hr.max
  have hl' := hr'.length
  have hcc' := hr'.cap
  have hcm' := hr'.max
  have hl'' := hr''.length
  have hcc'' := hr''.cap
  have hcm'' := hr''.max
  go_enter Try.func13, Try.ntmps13
  go_wp2_with fail
  refine (known4 w).mono ?_
  rintro e w1 ⟨rfl, hc1⟩
  by_cases hn : n ≤ 30
  case neg =>
    go_wp2_with fail
    go_ret
    exact ⟨rfl, hc1⟩
  by_cases hn2 : n ≤ n'
  case neg =>
    go_wp2_with fail
    go_ret
    exact ⟨rfl, hc1⟩
  by_cases hn3 : n'' ≤ 6
  case neg =>
    go_wp2_with fail
    go_ret
    exact ⟨rfl, hc1⟩
  have hnd := newdisk_any 60 256 [] w1 (by simp) (by omega) (by omega) (by omega) (by omega)
  rw [show ((60 : Nat) : Int) = 60 from rfl, show ((256 : Nat) : Int) = 256 from rfl] at hnd
  go_wp2_with fail
  refine hnd.mono ?_
  rintro e w2 ⟨b, g, m, rfl, hb, hg, hm, hd2, hc2⟩
  clear hnd
  have ho := openlog_any w2 hd2 (by simp) (by omega) (by omega) (by omega)
  simp only [List.length_nil] at ho
  go_wp2_with fail
  refine ho.mono ?_
  rintro e w3 ⟨lb, um, A0, c0, rfl, hlb, hum, hl3, hr3, hc3⟩
  clear ho
  have hc03 := (hc1.trans hc2 (by simp)).trans hc3 (by simp)
  have hba := batch_any 3 A'' n'' c'' L w3 (hr''.keep hc03 (by simp)) (by omega) (by omega)
  rw [show ((3 : Nat) : Int) = 3 from rfl] at hba
  have hO := hl3.out
  go_wp2_with fail
  refine hba.mono ?_
  rintro e w4 ⟨v4, rfl, hr4, hc4⟩
  clear hba
  have hbl := batchL_length 3 L
  have hbs := batchL_small 3 L
  obtain ⟨rs, hrs⟩ : ∃ rs, batchL 3 L = rs := ⟨_, rfl⟩
  rw [hrs] at hbl hbs hr4
  obtain ⟨A4, c4, rfl, hk4⟩ := hr4.recs [lb, b, g, m, um] (by simp; omega)
  have hby := bodyB_le rs 255 hbs
  have hce := commitE_fit 60 256 0 rs hbs (by omega)
  have hcm := commit_any A4 _ c4 rs w4 (hl3.nil hc4) (by simp) hk4 (by omega) (fun r hr => by have := hbs r hr; omega) (by omega) hce (by simp)
  clear hce hbl hby hbs
  go_wp2_with fail
  refine hcm.mono ?_
  rintro e w5 ⟨rfl, ⟨R5, next5, hl5, _⟩, hc5⟩
  clear hcm hk4 hr4 hr3 hd2 hl3
  have hd5 := hl5.live.sub (Y := []) (by simp)
  have hsw : w.heap.size ≤ lb ∧ w.heap.size ≤ um ∧ w.heap.size ≤ b ∧ w.heap.size ≤ g ∧ w.heap.size ≤ m := by
    have := hc1.size
    have := hc2.size
    omega
  have hc05 : Ch [] w w5 := (hc03.trans hc4 (by simp)).trans hc5 (by intro y hy; simp at hy; omega)
  have HSW := Lib.hid hsw
  have HZ := Lib.hid hz
  clear hsw hl5 hc1 hc2 hc3 hc4 hc5 hc03 hz hrs
  go_wp2_with fail
  go_loopw [11] (fun ki wr => ∃ (k : Nat) (R : Nat → List UInt8), k ≤ n ∧ ki = .int .i64 (k : Int) ∧ Live wr b g m [] 60 256 R ∧ Ch [b, g, m] w5 wr) (fun ki _ => n - (intOf ki).toNat)
  case atStart => exact ⟨0, _, by omega, rfl, hd5, Ch.refl _ _⟩
  case round =>
    obtain ⟨k, R, hk, rfl, hdA, hch⟩ := hrel
    obtain ⟨wA, hwA⟩ : ∃ W, W = wr := ⟨_, rfl⟩
    subst hwA
    have hc0A : Ch [] w wA := hc05.trans hch (by have := HSW.out; intro y hy; simp at hy; omega)
    by_cases hlt : k < n
    · obtain ⟨pb, po, rfl, hcells⟩ := (hr.keep hc0A (by simp)).cells (by omega)
      have hcell := hcells k (.int .u16 ((zs[k]'(by omega) : Nat) : Int)) (by rw [List.getElem?_map, List.getElem?_eq_getElem (by omega)]; rfl)
      have hz1 := HZ.out (zs[k]'(by omega)) (List.getElem_mem _)
      generalize zs[k]'(by omega) = z at *
      have hpl := place_num (z : Int) 15360 wA (by omega) (by omega) (by omega) (by omega)
      rw [show ((15360 : Nat) : Int) = 15360 from rfl] at hpl
      obtain ⟨p, hp⟩ : ∃ p : Nat, (z : Int) % 15360 = (p : Int) := ⟨z % 15360, by omega⟩
      have hp2 : p < 15360 := by omega
      rw [hp] at hpl
      clear hp hcells
      go_wp2_with fail
      refine hpl.mono ?_
      rintro e w' ⟨rfl, rfl⟩
      clear hpl
      have hrd := live_read b g m [] 60 256 R (p / 256) wA hdA (by omega)
      have hRl := hdA.len (p / 256) (by omega)
      rw [show ((p / 256 : Nat) : Int) = (p : Int) / 256 from by omega] at hrd
      go_wp2_with fail
      refine hrd.mono ?_
      rintro e wB ⟨x, cx, rfl, hx1, hx2, hrow, hcB⟩
      clear hrd
      have hc0B := hc0A.trans hcB (by simp)
      have hrM : RdB wB A' n' c' M := hr'.keep hc0B (by simp)
      obtain ⟨mb, mo, rfl, hmc⟩ := hrM.cell_at0 k (by omega)
      generalize hRe : R (p / 256) = S at *
      obtain ⟨q, hq⟩ : ∃ q : Nat, (p : Int) % 256 = (q : Int) := ⟨p % 256, by omega⟩
      have hq2 : q < 256 := by omega
      have hxc := row_byte hrow q (S[q]'(by omega)).toNat (by rw [List.getElem?_eq_getElem (by omega)]; rfl)
      have hxf := hrow.frozenAt q
      obtain ⟨y, hy⟩ := xor_byte (S[q]'(by omega)) (M[k]'(by omega))
      have hset := row_set hrow q y _ rfl
      have hch3 : Ch [] wA (wB.setCell ⟨x, q, none⟩ (.int .u8 (y.toNat : Int))) := hcB.setCell _ _ (.inr hx1)
      have hxf3 := hset.frozenAt q
      have hset2 : Ch [x] wB (wB.setCell ⟨x, q, none⟩ (.int .u8 (y.toNat : Int))) := (Ch.refl [x] wB).setCell _ _ (by simp)
      have hmlt : mb < wA.heap.size := by
        have h1 : RdB wA (some ⟨mb, mo, none⟩) n' c' M := hr'.keep hc0A (by simp)
        obtain ⟨b', o', e', h2⟩ := h1.cell_at0 k (by omega)
        injection e' with e'
        injection e' with e1 e2
        subst e1 e2
        exact World.block_lt_of_cell? wA _ h2
      have hrd2 : RdB (wB.setCell ⟨x, q, none⟩ (.int .u8 (y.toNat : Int))).drew (some ⟨x, 0, none⟩) 256 cx (S.set q y) := (own_rd hset).keep (F := []) (Ch.refl [] _).drew (by simp)
      have hwr := live_write_any b g m [] 60 256 R (p / 256) (some ⟨x, 0, none⟩) cx (S.set q y) (wB.setCell ⟨x, q, none⟩ (.int .u8 (y.toNat : Int))).drew (hdA.nil hch3.drew) (by simp) hrd2 (by omega)
      rw [show ((p / 256 : Nat) : Int) = (p : Int) / 256 from by omega] at hwr
      generalize (M[k]'(by omega)).toNat = z2 at *
      generalize (S[q]'(by omega)).toNat = z3 at *
      clear hset hRe
      have hq3 : (q : Int) < 256 := by omega
      have hk3 : (k : Int) < (n' : Int) := by omega
      have e2 : (p : Int).tmod 256 = (q : Int) := by rw [Int.tmod_eq_emod_of_nonneg (by omega)]; exact hq
      go_wp2_with fail
      have hT3 : (wB.setCell ⟨x, q, none⟩ (.int .u8 (y.toNat : Int))).cell? ⟨mb, mo + k, none⟩ = some (.int .u8 (z2 : Int)) := hset2.cell hmc (by simp only [List.mem_singleton]; omega)
      have hT4 : (wB.setCell ⟨x, q, none⟩ (.int .u8 (y.toNat : Int))).frozen? ⟨x, q, none⟩ = false := hxf3
      refine dr_begin (by kernel_rfl) ?_
      refine dr_more (fun W => W.cell? ⟨mb, mo + k, none⟩ = some (.int .u8 (z2 : Int)) ∧ W.frozen? ⟨x, q, none⟩ = false) ?_
      have hT : True ∧ (wB.drew.cell? ⟨mb, mo + k, none⟩ = some (.int .u8 (z2 : Int)) ∧ wB.drew.frozen? ⟨x, q, none⟩ = false) := ⟨trivial, hmc, hxf⟩
      have hT2 := hxc
      refine dr_take 0 (some 73) (v := ?_) rfl rfl (by kernel_rfl) (by kernel_rfl) (by kernel_rfl) (fun _ _ _ h => h) rfl hT (fun W _ => ?_) ?_
      rotate_left
      · (go_simp; try with_reducible rfl)
      try simp only [Act.put, List.setIfInBounds_toArray, List.set_cons_zero, List.set_cons_succ]
      refine dr_take 1 (some 74) (v := ?_) rfl rfl (by kernel_rfl) (by kernel_rfl) (by kernel_rfl) (fun _ _ _ h => h) rfl hT (fun W _ => ?_) ?_
      rotate_left
      · (go_simp; try with_reducible rfl)
      try simp only [Act.put, List.setIfInBounds_toArray, List.set_cons_zero, List.set_cons_succ]
      refine dr_take 2 (some 75) (v := ?_) rfl rfl (by kernel_rfl) (by kernel_rfl) (by kernel_rfl) (fun _ _ _ h => h) rfl hT (fun W _ => ?_) ?_
      rotate_left
      · (go_simp; try with_reducible rfl)
      try simp only [Act.put, List.setIfInBounds_toArray, List.set_cons_zero, List.set_cons_succ]
      refine dr_take 3 (some 76) (v := ?_) rfl rfl (by kernel_rfl) (by kernel_rfl) (by kernel_rfl) (fun _ _ _ h => h) rfl hT (fun W _ => ?_) ?_
      rotate_left
      · (go_simp; try with_reducible rfl)
      try simp only [Act.put, List.setIfInBounds_toArray, List.set_cons_zero, List.set_cons_succ]
      refine dr_take 5 (some 78) (v := ?_) rfl rfl (by kernel_rfl) (by kernel_rfl) (by kernel_rfl) (fun _ _ _ h => h) rfl hT (fun W _ => ?_) ?_
      rotate_left
      · (go_simp; try with_reducible rfl)
      try simp only [Act.put, List.setIfInBounds_toArray, List.set_cons_zero, List.set_cons_succ]
      refine dr_take 6 (some 79) (v := ?_) rfl rfl (by kernel_rfl) (by kernel_rfl) (by kernel_rfl) (fun _ _ _ h => h) rfl hT (fun W _ => ?_) ?_
      rotate_left
      · (go_simp; try with_reducible rfl)
      try simp only [Act.put, List.setIfInBounds_toArray, List.set_cons_zero, List.set_cons_succ]
      refine dr_take 7 (some 80) (v := ?_) rfl rfl (by kernel_rfl) (by kernel_rfl) (by kernel_rfl) (fun _ _ _ h => h) rfl hT (fun W _ => ?_) ?_
      rotate_left
      · (go_simp; try with_reducible rfl)
      try simp only [Act.put, List.setIfInBounds_toArray, List.set_cons_zero, List.set_cons_succ]
      refine dr_take 8 (some 81) (v := ?_) rfl rfl (by kernel_rfl) (by kernel_rfl) (by kernel_rfl) (fun _ _ _ h => h) rfl hT (fun W hW => ?_) ?_
      rotate_left
      · (have h1 := hW.2.1; go_simp; try with_reducible rfl)
      try simp only [Act.put, List.setIfInBounds_toArray, List.set_cons_zero, List.set_cons_succ]
      refine dr_step 4 rfl (by kernel_rfl) rfl (fun K hK => ?_)
      go_simp
      refine hK _ _ hT ?_
      clear hK K
      try simp only [Act.put, List.setIfInBounds_toArray, List.set_cons_zero, List.set_cons_succ]
      refine dr_take 9 (some 82) (v := ?_) rfl rfl (by kernel_rfl) (by kernel_rfl) (by kernel_rfl) (fun _ _ _ h => h) rfl hT (fun W _ => ?_) ?_
      rotate_left
      · (go_simp; try with_reducible rfl)
      try simp only [Act.put, List.setIfInBounds_toArray, List.set_cons_zero, List.set_cons_succ]
      try simp only [hy]
      refine dr_take 10 (some 83) (v := ?_) rfl rfl (by kernel_rfl) (by kernel_rfl) (by kernel_rfl) (fun _ _ _ h => h) rfl hT (fun W _ => ?_) ?_
      rotate_left
      · (go_simp; try with_reducible rfl)
      try simp only [Act.put, List.setIfInBounds_toArray, List.set_cons_zero, List.set_cons_succ]
      --STORE
      refine dr_step 11 rfl (by kernel_rfl) rfl (fun K hK => ?_)
      go_simp
      refine hK _ _ ⟨trivial, hT3, hT4⟩ ?_
      clear hK K
      try simp only [Act.put, List.setIfInBounds_toArray, List.set_cons_zero, List.set_cons_succ]
      refine dr_done (by kernel_rfl) ?_
      go_wp2_with fail
      refine hwr.mono ?_
      rintro e wC ⟨rfl, hdC, hcC⟩
      clear hwr
      go_wp2_with fail
      refine ⟨⟨k + 1, _, by omega, by go_num, hdC, (hch.trans hch3.drew (by simp)).trans hcC (by simp)⟩, ?_⟩
      simp [intOf]
      omega
    · obtain rfl : k = n := by omega
      clear hlt hk
      have hfl := live_flush_any b g m [] 60 256 R wA hdA
      go_wp2_with fail
      refine hfl.mono ?_
      rintro e wB ⟨rfl, hdB, hcB⟩
      have ho := wopen_any b g m 60 256 [] R wB hdB (by simp) (by omega) (by omega)
      go_wp2_with fail
      refine ho.mono ?_
      rintro e wC ⟨lb2, um2, v2, rfl, q1, q2, q3, q4, q5⟩
      obtain ⟨A2, c2, rfl, _⟩ := q4.recs [] (by simp)
      have hcF : Ch [] w wC := (hc0A.trans hcB (by have := HSW.out; intro y hy; simp at hy; omega)).trans q5 (by simp)
      clear ho hfl q3 q4
      go_wp2_with fail
      go_ret
      exact ⟨rfl, hcF⟩

end Go.Proofs.Ytbkncfedahifkaa
