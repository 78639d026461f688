/-
  DiskSure: true.
-/
import Derived.Test.YtbkncfedahifkaaDFull
import Derived.Test.YtbkncfedahifkaaDraw
set_option linter.unusedVariables false
set_option linter.unusedSimpArgs false
namespace Go.Proofs.Ytbkncfedahifkaa
open Go.RowKit Go.Maps

theorem keep_bit (keep i : Nat) (hk : keep < 18446744073709551616) : bits BinOp.and IntKind.u64 ((keep : Int) / 2 ^ i) 1 = ((keep / 2 ^ i % 2 : Nat) : Int) := by
  have e : (keep : Int) / 2 ^ i = ((keep / 2 ^ i : Nat) : Int) := by rw [Int.natCast_ediv, Int.natCast_pow]; rfl
  have hle : keep / 2 ^ i ≤ keep := Nat.div_le_self _ _
  rw [e]
  clear e
  generalize keep / 2 ^ i = q at *
  rw [Lib.u64_and1 _ (by omega) (by omega)]
  omega

/-- A byte of a slice that is read. -/
theorem RdB.at0 {w : World} {A : Option Addr} {n c : Nat} {l : List UInt8} (h : RdB w A n c l) (i : Nat) (hi : i < l.length) : ∃ b o, A = some ⟨b, o, none⟩ ∧ w.cell? ⟨b, o + i, none⟩ = some (.int .u8 (l[i].toNat : Int)) := by
  obtain ⟨b, o, e, hc⟩ := h.cell (by rw [← h.length]; omega)
  exact ⟨b, o, e, hc i hi⟩

set_option maxRecDepth 100000 in
set_option maxHeartbeats 8000000 in
theorem disk_sure_n (A0 A1 : Option Addr) (n0 c0 n1 c1 : Nat) (la lb : List UInt8) (keep : Nat) (torn at_ : Int) (w : World) (hr0 : RdB w A0 n0 c0 la) (hr1 : RdB w A1 n1 c1 lb)
    (hkeep : keep < 18446744073709551616) (ht0 : -9223372036854775808 ≤ torn) (ht1 : torn ≤ 9223372036854775807) (ha0 : -9223372036854775808 ≤ at_) (ha1 : at_ ≤ 9223372036854775807) :
    Calls Try.prog 10 #[.slice A0 n0 c0, .slice A1 n1 c1, .int .u64 (keep : Int), .int .i64 torn, .int .i64 at_] w fun e w' => e = .returned (.bool true) ∧ Ch [] w w' := by
  have hla := hr0.length
  have hlb := hr1.length
  by_cases g0 : 40 < n0
  · have g0' : decide ((n0 : Int) > 40) = true := by simp; omega
    go_enter Try.func10, Try.ntmps10
    go_wp2_with fail
    refine (known3 w).mono ?_
    rintro e w0 ⟨rfl, hc0⟩
    go_wp2_with fail
    go_ret
    exact ⟨rfl, hc0⟩
  by_cases g1 : 40 < n1
  · have g0' : decide ((n0 : Int) > 40) = false := by simp; omega
    have g1' : decide ((n1 : Int) > 40) = true := by simp; omega
    go_enter Try.func10, Try.ntmps10
    go_wp2_with fail
    refine (known3 w).mono ?_
    rintro e w0 ⟨rfl, hc0⟩
    go_wp2_with fail
    go_ret
    exact ⟨rfl, hc0⟩
  have g0' : decide ((n0 : Int) > 40) = false := by simp; omega
  have g1' : decide ((n1 : Int) > 40) = false := by simp; omega
  go_enter Try.func10, Try.ntmps10
  go_wp2_with fail
  refine (known3 w).mono ?_
  rintro e w0 ⟨rfl, hc0⟩
  have hn := new_any 40 64 [] w0 (by simp)
  rw [show (min (max (40 : Int) 1) 4096).toNat = 40 from rfl, show (min (max (64 : Int) 64) 4096).toNat = 64 from rfl] at hn
  go_wp2_with fail
  refine hn.mono ?_
  rintro e w1 ⟨b, g, m, rfl, hb, hg, hm, hd1, hc1⟩
  clear hn
  have hs0 := hc0.size
  have hcw1 := hc0.trans hc1 (by simp)
  have hbw : w.heap.size ≤ b ∧ w.heap.size ≤ g ∧ w.heap.size ≤ m := by omega
  clear hc0 hc1 hb hg hm hs0
  go_wp2_with fail
  go_loopw [12] (fun i wr => ∃ (k : Nat) (d : Dsk), k ≤ n0 ∧ i = .int .i64 k ∧ IsDisk wr b g m [] d ∧ SureA la d k ∧ Ch [] w wr) (fun i _ => n0 - (intOf i).toNat)
  case atStart => exact ⟨0, _, by omega, rfl, hd1, SureA.new la, hcw1⟩
  case round =>
    clear hd1 hcw1
    obtain ⟨k, d, hk, rfl, hd, hS, hch⟩ := hrel
    obtain ⟨wA, hwA⟩ : ∃ W, W = wr := ⟨_, rfl⟩
    subst hwA
    have HS := Lib.hid hS
    clear hS
    by_cases hlt : k < n0
    · obtain ⟨bb, bo, rfl, hcell⟩ := hr0.at0 k (by omega)
      have hcell := hch.cell hcell (by simp)
      have hstep := HS.out.step (k := k) (by omega)
      have Hstep := Lib.hid hstep
      clear hstep
      have hwl := live_write HS.out.1 k (by have := HS.out.2.2.1; omega) (List.replicate 64 (la[k]'(by omega))) (by rw [List.length_replicate]; exact HS.out.2.1.symm)
      generalize hx : la[k]'(by omega) = x at *
      clear hx
      go_wp2_with fail
      refine (full_any x wA).mono ?_
      rintro e w2 ⟨v, rfl, hv, hc2⟩
      obtain ⟨fb, fc, rfl, hfb, hfl, hfrow⟩ := hv.get (by simp)
      have hfr : RdB w2 (some ⟨fb, 0, none⟩) (List.replicate 64 x).length fc (List.replicate 64 x) := own_rd hfrow
      have hwr := write_any b g m [] d (k : Int) _ _ _ _ w2 (hd.nil hc2) (by simp) hfr
      rw [hwl] at hwr
      have HWL := Lib.hid hwl
      clear hwl hv hfrow hfr
      go_wp2_with fail
      refine hwr.mono ?_
      rintro e w3 ⟨rfl, hd3, hc3⟩
      clear hwr
      have hc4 := (hch.trans hc2 (by simp)).trans hc3 (by intro y hy; simp only [List.mem_cons, List.not_mem_nil, or_false] at hy; right; omega)
      go_wp2_with fail
      go_roundw
      case rel => exact ⟨k + 1, _, by omega, by go_num, hd3, Hstep.out, hc4⟩
      case measure => simp [intOf]; omega
    · obtain rfl : k = n0 := by omega
      clear hlt hk
      have hfl := live_flush HS.out.1
      have hSB : SureB la lb (d.settled resFlush) 0 := by
        have := HS.out
        rw [← hla] at this
        exact this.flush lb
      have hf := flush_any b g m [] d wA hd
      rw [hfl] at hf
      clear hfl HS
      go_wp2_with fail
      refine hf.mono ?_
      rintro e w2 ⟨rfl, hd2, hc2⟩
      clear hf hd
      have hcw2 := hch.trans hc2 (by intro y hy; simp only [List.mem_cons, List.not_mem_nil, or_false] at hy; right; omega)
      clear hch hc2
      go_wp2_with fail
      go_loopw [13] (fun i wr => ∃ (k : Nat) (d : Dsk), k ≤ n1 ∧ i = .int .i64 k ∧ IsDisk wr b g m [] d ∧ SureB la lb d k ∧ Ch [] w wr) (fun i _ => n1 - (intOf i).toNat)
      case atStart => exact ⟨0, _, by omega, rfl, hd2, hSB, hcw2⟩
      case round =>
        clear hd2 hSB hcw2 d
        obtain ⟨k2, d, hk, rfl, hd, hS, hch⟩ := hrel
        obtain ⟨wA, hwA⟩ : ∃ W, W = wr := ⟨_, rfl⟩
        subst hwA
        have HS := Lib.hid hS
        clear hS
        by_cases hlt : k2 < n1
        · obtain ⟨bb, bo, rfl, hcell⟩ := hr1.at0 k2 (by omega)
          have hcell := hch.cell hcell (by simp)
          have hstep := HS.out.step (k := k2) (by omega)
          have Hstep := Lib.hid hstep
          clear hstep
          have hwl := live_write HS.out.1 k2 (by have := HS.out.2.2.1; omega) (List.replicate 64 (lb[k2]'(by omega))) (by rw [List.length_replicate]; exact HS.out.2.1.symm)
          generalize hx : lb[k2]'(by omega) = x at *
          clear hx
          go_wp2_with fail
          refine (full_any x wA).mono ?_
          rintro e w2 ⟨v, rfl, hv, hc2⟩
          obtain ⟨fb, fc, rfl, hfb, hfl, hfrow⟩ := hv.get (by simp)
          have hfr : RdB w2 (some ⟨fb, 0, none⟩) (List.replicate 64 x).length fc (List.replicate 64 x) := own_rd hfrow
          have hwr := write_any b g m [] d (k2 : Int) _ _ _ _ w2 (hd.nil hc2) (by simp) hfr
          rw [hwl] at hwr
          have HWL := Lib.hid hwl
          clear hwl hv hfrow hfr
          go_wp2_with fail
          refine hwr.mono ?_
          rintro e w3 ⟨rfl, hd3, hc3⟩
          clear hwr
          have hc4 := (hch.trans hc2 (by simp)).trans hc3 (by intro y hy; simp only [List.mem_cons, List.not_mem_nil, or_false] at hy; right; omega)
          go_wp2_with fail
          go_roundw
          case rel => exact ⟨k2 + 1, _, by omega, by go_num, hd3, Hstep.out, hc4⟩
          case measure => simp [intOf]; omega
        · obtain rfl : k2 = n1 := by omega
          clear hlt hk
          have hz : ∀ i, i < 40 → _ := fun i hi => (show SureB la lb d lb.length by rw [hlb]; exact HS.out).crash keep torn at_ i hi
          have hcr := crash_any b g m [] d keep torn at_ wA hd (by simp) hkeep
          obtain ⟨q, hq⟩ : ∃ q : Nat, min (max at_ 0) 64 = (q : Int) := ⟨(min (max at_ 0) 64).toNat, by omega⟩
          have hq64 : q ≤ 64 := by omega
          rw [hq, Int.toNat_natCast] at hz
          have hz1 : ∀ i : Nat, i < 40 → (d.crash keep torn at_).at_ (i : Int) = 0 := fun i hi => (hz i hi).1
          have hz2 : ∀ i : Nat, i < 40 → (d.crash keep torn at_).read i = _ := fun i hi => (hz i hi).2
          clear hz
          generalize hdz : d.crash keep torn at_ = dz at *
          have Hz1 := Lib.hid hz1
          have Hz2 := Lib.hid hz2
          have HQ := Lib.hid hq
          clear hz1 hz2 hq hdz HS
          go_wp2_with fail
          refine hcr.mono ?_
          rintro e w2 ⟨rfl, hd2, hc2⟩
          clear hcr hd
          have hcw2 := hch.trans hc2 (by intro y hy; simp only [List.mem_cons, List.not_mem_nil, or_false] at hy; right; omega)
          clear hch hc2
          have HLA := Lib.hid hla
          have HLB := Lib.hid hlb
          clear hla hlb
          go_wp2_with fail
          go_loopw [14] (fun i wr => ∃ k : Nat, k ≤ 40 ∧ i = .int .i64 k ∧ IsDisk wr b g m [] dz ∧ Ch [] w wr) (fun i _ => 40 - (intOf i).toNat)
          case atStart => exact ⟨0, by omega, rfl, hd2, hcw2⟩
          case round =>
            clear hd2 hcw2
            obtain ⟨i, hk, rfl, hd, hch⟩ := hrel
            obtain ⟨wA, hwA⟩ : ∃ W, W = wr := ⟨_, rfl⟩
            subst hwA
            by_cases hlt : i < 40
            · by_cases hia : i < k
              · have t7 : decide ((i : Int) < (k : Int)) = true := by simpa using hia
                obtain ⟨ab, ao, eA0, hca0⟩ := hr0.at0 i (by rw [HLA.out]; exact hia)
                have hga : la[i]'(by rw [HLA.out]; exact hia) = oldOf la i := by simp [oldOf, List.getD, show i < la.length from by rw [HLA.out]; exact hia]
                rw [hga] at hca0
                subst eA0
                clear hga
                have hca0 := hch.cell hca0 (by simp)
                by_cases hib : i < k2
                · have t8 : decide ((i : Int) < (k2 : Int)) = true := by simpa using hib
                  obtain ⟨bb, bo, eA1, hcb0⟩ := hr1.at0 i (by rw [HLB.out]; exact hib)
                  have hgb : lb[i]'(by rw [HLB.out]; exact hib) = lb.getD i 0 := by simp [List.getD, show i < lb.length from by rw [HLB.out]; exact hib]
                  rw [hgb] at hcb0
                  subst eA1
                  clear hgb
                  have hbit := keep_bit keep i hkeep
                  by_cases hit : (i : Int) = torn
                  · have t9 : ((i : Int) == torn) = true := by rw [beq_iff_eq]; exact hit
                    by_cases hbb : keep / 2 ^ i % 2 = 1
                    · have t10 : (bits BinOp.and IntKind.u64 ((keep : Int) / 2 ^ i) 1 == 1) = true := by rw [hbit, hbb]; rfl
                      clear hbit
                      have hit' := Lib.hid hit
                      clear hit
                      have hN : newsOf lb keep torn q i = q := by simp [newsOf, show i < lb.length from by rw [HLB.out]; exact hib, hit'.out]
                      have hL : dz.read i = List.replicate (q) (lb.getD i 0) ++ List.replicate (64 - (q)) (oldOf la i) := by have h9 := Hz2.out i hlt; rw [hN] at h9; exact h9
                      have hll : (dz.read i).length = 64 := by rw [hL]; simp; omega
                      have Ha := Hz1.out i hlt
                      generalize hol : oldOf la i = ol at *
                      generalize hbi : lb.getD i 0 = bi at *
                      go_wp2_with fail
                      rw [HQ.out]
                      refine (read_any b g m [] dz i wA hd Ha).mono ?_
                      rintro e w2 ⟨v2, rfl, ho2, hcr⟩
                      obtain ⟨yb, yc, rfl, hyb, hyl, hrow2⟩ := ho2.get (by rw [hll]; omega)
                      rw [hll] at hrow2
                      rw [hll]
                      have hd2 := hd.nil hcr
                      have hc2 := hch.trans hcr (by simp)
                      have hcb1 := hc2.cell hcb0 (by simp)
                      have HN := Lib.hid hN
                      have HL := Lib.hid hL
                      have HLL := Lib.hid hll
                      clear ho2 hN hL hll Ha
                      generalize hLe : dz.read i = L at *
                      have hL := HL.out
                      clear HL
                      have HL := Lib.hid hL
                      clear hL
                      go_wp2_with fail
                      clear hcb0
                      go_loopw [19] (fun j wr => ∃ k : Nat, k ≤ 64 ∧ j = .int .i64 k ∧ wr.ownsRow wA.heap.size 5 1 (.slice (some ⟨yb, 0, none⟩) 64 yc) 64 (bvs L) ∧ Ch [] w2 wr) (fun j _ => 64 - (intOf j).toNat)
                      case atStart => exact ⟨0, by omega, rfl, hrow2, Ch.refl _ _⟩
                      case round =>
                        clear hrow2
                        obtain ⟨k, hk, rfl, hoy, hchy⟩ := hrel
                        obtain ⟨wB, hwB⟩ : ∃ W, W = wr := ⟨_, rfl⟩
                        subst hwB
                        by_cases hlk : k < 64
                        · have hk64 : (k : Int) < 64 := by omega
                          have hk00 : (0 : Int) ≤ (k : Int) := by omega
                          by_cases hkN : k < q
                          · have t1 : decide ((k : Int) < (q : Int)) = true := by simpa using hkN
                            have t2 : decide ((k : Int) ≥ (q : Int)) = false := by simp; omega
                            have t3 : decide (q ≤ k) = false := by simp; omega
                            have t4 : decide (k < q) = true := by simp; omega
                            have hcy := row_byte hoy k _ (sec_new HL.out k (by omega))
                            have hcb2 := hchy.cell hcb1 (by simp)
                            go_wp2_with fail
                            refine dr_begin (by kernel_rfl) ?_
                            refine dr_more (fun W => W.cell? ⟨yb, k, none⟩ = some (.int .u8 (bi.toNat : Int)) ∧ W.cell? ⟨bb, bo + i, none⟩ = some (.int .u8 (bi.toNat : Int))) ?_
                            have hT : True ∧ (wB.drew.cell? ⟨yb, k, none⟩ = some (.int .u8 (bi.toNat : Int)) ∧ wB.drew.cell? ⟨bb, bo + i, none⟩ = some (.int .u8 (bi.toNat : Int))) := ⟨trivial, hcy, hcb2⟩
                            refine dr_take 0 (some 118) (v := ?_) rfl rfl (by kernel_rfl) (by kernel_rfl) (by kernel_rfl) (fun _ _ _ h => h) rfl hT (fun W _ => ?_) ?_
                            rotate_left
                            · (go_simp; try with_reducible rfl)
                            try simp only [Act.put, List.setIfInBounds_toArray, List.set_cons_zero, List.set_cons_succ]
                            refine dr_take 1 (some 119) (v := ?_) rfl rfl (by kernel_rfl) (by kernel_rfl) (by kernel_rfl) (fun _ _ _ h => h) rfl hT (fun W _ => ?_) ?_
                            rotate_left
                            · (go_simp; try with_reducible rfl)
                            try simp only [Act.put, List.setIfInBounds_toArray, List.set_cons_zero, List.set_cons_succ]
                            refine dr_take 2 (some 120) (v := ?_) rfl rfl (by kernel_rfl) (by kernel_rfl) (by kernel_rfl) (fun _ _ _ h => h) rfl hT (fun W _ => ?_) ?_
                            rotate_left
                            · (go_simp; try with_reducible rfl)
                            try simp only [Act.put, List.setIfInBounds_toArray, List.set_cons_zero, List.set_cons_succ]
                            refine dr_take 3 (some 121) (v := ?_) rfl rfl (by kernel_rfl) (by kernel_rfl) (by kernel_rfl) (fun _ _ _ h => h) rfl hT (fun W _ => ?_) ?_
                            rotate_left
                            · (go_simp; try with_reducible rfl)
                            try simp only [Act.put, List.setIfInBounds_toArray, List.set_cons_zero, List.set_cons_succ]
                            refine dr_take 4 (some 122) (v := ?_) rfl rfl (by kernel_rfl) (by kernel_rfl) (by kernel_rfl) (fun _ _ _ h => h) rfl hT (fun W _ => ?_) ?_
                            rotate_left
                            · (go_simp; try with_reducible rfl)
                            try simp only [Act.put, List.setIfInBounds_toArray, List.set_cons_zero, List.set_cons_succ]
                            refine dr_take 5 (some 123) (v := ?_) rfl rfl (by kernel_rfl) (by kernel_rfl) (by kernel_rfl) (fun _ _ _ h => h) rfl hT (fun W _ => ?_) ?_
                            rotate_left
                            · (go_simp; try with_reducible rfl)
                            try simp only [Act.put, List.setIfInBounds_toArray, List.set_cons_zero, List.set_cons_succ]
                            refine dr_take 6 (some 124) (v := ?_) rfl rfl (by kernel_rfl) (by kernel_rfl) (by kernel_rfl) (fun _ _ _ h => h) rfl hT (fun W _ => ?_) ?_
                            rotate_left
                            · (go_simp; try with_reducible rfl)
                            try simp only [Act.put, List.setIfInBounds_toArray, List.set_cons_zero, List.set_cons_succ]
                            refine dr_take 7 (some 125) (v := ?_) rfl rfl (by kernel_rfl) (by kernel_rfl) (by kernel_rfl) (fun _ _ _ h => h) rfl hT (fun W hW => ?_) ?_
                            rotate_left
                            · (have h1 := hW.2.1; go_simp; try with_reducible rfl)
                            try simp only [Act.put, List.setIfInBounds_toArray, List.set_cons_zero, List.set_cons_succ]
                            refine dr_take 8 (some 126) (v := ?_) rfl rfl (by kernel_rfl) (by kernel_rfl) (by kernel_rfl) (fun _ _ _ h => h) rfl hT (fun W _ => ?_) ?_
                            rotate_left
                            · (go_simp; try with_reducible rfl)
                            try simp only [Act.put, List.setIfInBounds_toArray, List.set_cons_zero, List.set_cons_succ]
                            refine dr_take 9 (some 127) (v := ?_) rfl rfl (by kernel_rfl) (by kernel_rfl) (by kernel_rfl) (fun _ _ _ h => h) rfl hT (fun W _ => ?_) ?_
                            rotate_left
                            · (go_simp; try with_reducible rfl)
                            try simp only [Act.put, List.setIfInBounds_toArray, List.set_cons_zero, List.set_cons_succ]
                            refine dr_take 10 (some 128) (v := ?_) rfl rfl (by kernel_rfl) (by kernel_rfl) (by kernel_rfl) (fun _ _ _ h => h) rfl hT (fun W _ => ?_) ?_
                            rotate_left
                            · (go_simp; try with_reducible rfl)
                            try simp only [Act.put, List.setIfInBounds_toArray, List.set_cons_zero, List.set_cons_succ]
                            refine dr_take 11 (some 129) (v := ?_) rfl rfl (by kernel_rfl) (by kernel_rfl) (by kernel_rfl) (fun _ _ _ h => h) rfl hT (fun W hW => ?_) ?_
                            rotate_left
                            · (have h1 := hW.2.2; go_simp; try with_reducible rfl)
                            try simp only [Act.put, List.setIfInBounds_toArray, List.set_cons_zero, List.set_cons_succ]
                            refine dr_take 12 (some 130) (v := ?_) rfl rfl (by kernel_rfl) (by kernel_rfl) (by kernel_rfl) (fun _ _ _ h => h) rfl hT (fun W _ => ?_) ?_
                            rotate_left
                            · (go_simp; try with_reducible rfl)
                            try simp only [Act.put, List.setIfInBounds_toArray, List.set_cons_zero, List.set_cons_succ]
                            refine dr_take 13 (some 131) (v := ?_) rfl rfl (by kernel_rfl) (by kernel_rfl) (by kernel_rfl) (fun _ _ _ h => h) rfl hT (fun W _ => ?_) ?_
                            rotate_left
                            · (go_simp; try with_reducible rfl)
                            try simp only [Act.put, List.setIfInBounds_toArray, List.set_cons_zero, List.set_cons_succ]
                            refine dr_take 14 (some 132) (v := ?_) rfl rfl (by kernel_rfl) (by kernel_rfl) (by kernel_rfl) (fun _ _ _ h => h) rfl hT (fun W _ => ?_) ?_
                            rotate_left
                            · (go_simp; try with_reducible rfl)
                            try simp only [Act.put, List.setIfInBounds_toArray, List.set_cons_zero, List.set_cons_succ]
                            refine dr_take 15 (some 133) (v := ?_) rfl rfl (by kernel_rfl) (by kernel_rfl) (by kernel_rfl) (fun _ _ _ h => h) rfl hT (fun W _ => ?_) ?_
                            rotate_left
                            · (go_simp; try with_reducible rfl)
                            try simp only [Act.put, List.setIfInBounds_toArray, List.set_cons_zero, List.set_cons_succ]
                            refine dr_take 16 (some 134) (v := ?_) rfl rfl (by kernel_rfl) (by kernel_rfl) (by kernel_rfl) (fun _ _ _ h => h) rfl hT (fun W _ => ?_) ?_
                            rotate_left
                            · (go_simp; try with_reducible rfl)
                            try simp only [Act.put, List.setIfInBounds_toArray, List.set_cons_zero, List.set_cons_succ]
                            refine dr_take 17 (some 135) (v := ?_) rfl rfl (by kernel_rfl) (by kernel_rfl) (by kernel_rfl) (fun _ _ _ h => h) rfl hT (fun W _ => ?_) ?_
                            rotate_left
                            · (go_simp; try with_reducible rfl)
                            try simp only [Act.put, List.setIfInBounds_toArray, List.set_cons_zero, List.set_cons_succ]
                            refine dr_take 18 (some 136) (v := ?_) rfl rfl (by kernel_rfl) (by kernel_rfl) (by kernel_rfl) (fun _ _ _ h => h) rfl hT (fun W _ => ?_) ?_
                            rotate_left
                            · (go_simp; try with_reducible rfl)
                            try simp only [Act.put, List.setIfInBounds_toArray, List.set_cons_zero, List.set_cons_succ]
                            refine dr_skip 19 (some 137) rfl rfl (by kernel_rfl) (by kernel_rfl) (by kernel_rfl) (fun _ _ _ h => h) rfl hT ?_
                            try simp only [Act.put, List.setIfInBounds_toArray, List.set_cons_zero, List.set_cons_succ]
                            refine dr_skip 20 (some 138) rfl rfl (by kernel_rfl) (by kernel_rfl) (by kernel_rfl) (fun _ _ _ h => h) rfl hT ?_
                            try simp only [Act.put, List.setIfInBounds_toArray, List.set_cons_zero, List.set_cons_succ]
                            refine dr_skip 21 (some 139) rfl rfl (by kernel_rfl) (by kernel_rfl) (by kernel_rfl) (fun _ _ _ h => h) rfl hT ?_
                            try simp only [Act.put, List.setIfInBounds_toArray, List.set_cons_zero, List.set_cons_succ]
                            refine dr_skip 22 (some 140) rfl rfl (by kernel_rfl) (by kernel_rfl) (by kernel_rfl) (fun _ _ _ h => h) rfl hT ?_
                            try simp only [Act.put, List.setIfInBounds_toArray, List.set_cons_zero, List.set_cons_succ]
                            refine dr_skip 23 (some 141) rfl rfl (by kernel_rfl) (by kernel_rfl) (by kernel_rfl) (fun _ _ _ h => h) rfl hT ?_
                            try simp only [Act.put, List.setIfInBounds_toArray, List.set_cons_zero, List.set_cons_succ]
                            refine dr_skip 24 (some 142) rfl rfl (by kernel_rfl) (by kernel_rfl) (by kernel_rfl) (fun _ _ _ h => h) rfl hT ?_
                            try simp only [Act.put, List.setIfInBounds_toArray, List.set_cons_zero, List.set_cons_succ]
                            refine dr_take 25 (some 143) (v := ?_) rfl rfl (by kernel_rfl) (by kernel_rfl) (by kernel_rfl) (fun _ _ _ h => h) rfl hT (fun W _ => ?_) ?_
                            rotate_left
                            · (go_simp; try with_reducible rfl)
                            try simp only [Act.put, List.setIfInBounds_toArray, List.set_cons_zero, List.set_cons_succ]
                            refine dr_take 26 (some 144) (v := ?_) rfl rfl (by kernel_rfl) (by kernel_rfl) (by kernel_rfl) (fun _ _ _ h => h) rfl hT (fun W _ => ?_) ?_
                            rotate_left
                            · (go_simp; try with_reducible rfl)
                            try simp only [Act.put, List.setIfInBounds_toArray, List.set_cons_zero, List.set_cons_succ]
                            refine dr_done (by kernel_rfl) ?_
                            go_wp2_with fail
                            go_roundw
                            case rel => exact ⟨k + 1, by omega, by go_num, own_keep hoy (Ch.refl [] wB).drew (by simp), hchy.drew⟩
                            case measure => simp [intOf]; omega
                          · have t1 : decide ((k : Int) < (q : Int)) = false := by simpa using hkN
                            have t2 : decide ((k : Int) ≥ (q : Int)) = true := by simp; omega
                            have t3 : decide (q ≤ k) = true := by simp; omega
                            have t4 : decide (k < q) = false := by simp; omega
                            have hcy := row_byte hoy k _ (sec_old HL.out k (by omega) hlk)
                            go_wp2_with fail
                            refine dr_begin (by kernel_rfl) ?_
                            refine dr_more (fun W => W.cell? ⟨yb, k, none⟩ = some (.int .u8 (ol.toNat : Int)) ∧ True) ?_
                            have hT : True ∧ (wB.drew.cell? ⟨yb, k, none⟩ = some (.int .u8 (ol.toNat : Int)) ∧ True) := ⟨trivial, hcy, trivial⟩
                            refine dr_take 0 (some 118) (v := ?_) rfl rfl (by kernel_rfl) (by kernel_rfl) (by kernel_rfl) (fun _ _ _ h => h) rfl hT (fun W _ => ?_) ?_
                            rotate_left
                            · (go_simp; try with_reducible rfl)
                            try simp only [Act.put, List.setIfInBounds_toArray, List.set_cons_zero, List.set_cons_succ]
                            refine dr_take 1 (some 119) (v := ?_) rfl rfl (by kernel_rfl) (by kernel_rfl) (by kernel_rfl) (fun _ _ _ h => h) rfl hT (fun W _ => ?_) ?_
                            rotate_left
                            · (go_simp; try with_reducible rfl)
                            try simp only [Act.put, List.setIfInBounds_toArray, List.set_cons_zero, List.set_cons_succ]
                            refine dr_take 2 (some 120) (v := ?_) rfl rfl (by kernel_rfl) (by kernel_rfl) (by kernel_rfl) (fun _ _ _ h => h) rfl hT (fun W _ => ?_) ?_
                            rotate_left
                            · (go_simp; try with_reducible rfl)
                            try simp only [Act.put, List.setIfInBounds_toArray, List.set_cons_zero, List.set_cons_succ]
                            refine dr_take 3 (some 121) (v := ?_) rfl rfl (by kernel_rfl) (by kernel_rfl) (by kernel_rfl) (fun _ _ _ h => h) rfl hT (fun W _ => ?_) ?_
                            rotate_left
                            · (go_simp; try with_reducible rfl)
                            try simp only [Act.put, List.setIfInBounds_toArray, List.set_cons_zero, List.set_cons_succ]
                            refine dr_skip 4 (some 122) rfl rfl (by kernel_rfl) (by kernel_rfl) (by kernel_rfl) (fun _ _ _ h => h) rfl hT ?_
                            try simp only [Act.put, List.setIfInBounds_toArray, List.set_cons_zero, List.set_cons_succ]
                            refine dr_skip 5 (some 123) rfl rfl (by kernel_rfl) (by kernel_rfl) (by kernel_rfl) (fun _ _ _ h => h) rfl hT ?_
                            try simp only [Act.put, List.setIfInBounds_toArray, List.set_cons_zero, List.set_cons_succ]
                            refine dr_skip 6 (some 124) rfl rfl (by kernel_rfl) (by kernel_rfl) (by kernel_rfl) (fun _ _ _ h => h) rfl hT ?_
                            try simp only [Act.put, List.setIfInBounds_toArray, List.set_cons_zero, List.set_cons_succ]
                            refine dr_skip 7 (some 125) rfl rfl (by kernel_rfl) (by kernel_rfl) (by kernel_rfl) (fun _ _ _ h => h) rfl hT ?_
                            try simp only [Act.put, List.setIfInBounds_toArray, List.set_cons_zero, List.set_cons_succ]
                            refine dr_skip 8 (some 126) rfl rfl (by kernel_rfl) (by kernel_rfl) (by kernel_rfl) (fun _ _ _ h => h) rfl hT ?_
                            try simp only [Act.put, List.setIfInBounds_toArray, List.set_cons_zero, List.set_cons_succ]
                            refine dr_skip 9 (some 127) rfl rfl (by kernel_rfl) (by kernel_rfl) (by kernel_rfl) (fun _ _ _ h => h) rfl hT ?_
                            try simp only [Act.put, List.setIfInBounds_toArray, List.set_cons_zero, List.set_cons_succ]
                            refine dr_skip 10 (some 128) rfl rfl (by kernel_rfl) (by kernel_rfl) (by kernel_rfl) (fun _ _ _ h => h) rfl hT ?_
                            try simp only [Act.put, List.setIfInBounds_toArray, List.set_cons_zero, List.set_cons_succ]
                            refine dr_skip 11 (some 129) rfl rfl (by kernel_rfl) (by kernel_rfl) (by kernel_rfl) (fun _ _ _ h => h) rfl hT ?_
                            try simp only [Act.put, List.setIfInBounds_toArray, List.set_cons_zero, List.set_cons_succ]
                            refine dr_skip 12 (some 130) rfl rfl (by kernel_rfl) (by kernel_rfl) (by kernel_rfl) (fun _ _ _ h => h) rfl hT ?_
                            try simp only [Act.put, List.setIfInBounds_toArray, List.set_cons_zero, List.set_cons_succ]
                            refine dr_take 13 (some 131) (v := ?_) rfl rfl (by kernel_rfl) (by kernel_rfl) (by kernel_rfl) (fun _ _ _ h => h) rfl hT (fun W _ => ?_) ?_
                            rotate_left
                            · (go_simp; try with_reducible rfl)
                            try simp only [Act.put, List.setIfInBounds_toArray, List.set_cons_zero, List.set_cons_succ]
                            refine dr_take 14 (some 132) (v := ?_) rfl rfl (by kernel_rfl) (by kernel_rfl) (by kernel_rfl) (fun _ _ _ h => h) rfl hT (fun W _ => ?_) ?_
                            rotate_left
                            · (go_simp; try with_reducible rfl)
                            try simp only [Act.put, List.setIfInBounds_toArray, List.set_cons_zero, List.set_cons_succ]
                            refine dr_take 15 (some 133) (v := ?_) rfl rfl (by kernel_rfl) (by kernel_rfl) (by kernel_rfl) (fun _ _ _ h => h) rfl hT (fun W _ => ?_) ?_
                            rotate_left
                            · (go_simp; try with_reducible rfl)
                            try simp only [Act.put, List.setIfInBounds_toArray, List.set_cons_zero, List.set_cons_succ]
                            refine dr_take 16 (some 134) (v := ?_) rfl rfl (by kernel_rfl) (by kernel_rfl) (by kernel_rfl) (fun _ _ _ h => h) rfl hT (fun W _ => ?_) ?_
                            rotate_left
                            · (go_simp; try with_reducible rfl)
                            try simp only [Act.put, List.setIfInBounds_toArray, List.set_cons_zero, List.set_cons_succ]
                            refine dr_take 17 (some 135) (v := ?_) rfl rfl (by kernel_rfl) (by kernel_rfl) (by kernel_rfl) (fun _ _ _ h => h) rfl hT (fun W _ => ?_) ?_
                            rotate_left
                            · (go_simp; try with_reducible rfl)
                            try simp only [Act.put, List.setIfInBounds_toArray, List.set_cons_zero, List.set_cons_succ]
                            refine dr_take 18 (some 136) (v := ?_) rfl rfl (by kernel_rfl) (by kernel_rfl) (by kernel_rfl) (fun _ _ _ h => h) rfl hT (fun W _ => ?_) ?_
                            rotate_left
                            · (go_simp; try with_reducible rfl)
                            try simp only [Act.put, List.setIfInBounds_toArray, List.set_cons_zero, List.set_cons_succ]
                            refine dr_take 19 (some 137) (v := ?_) rfl rfl (by kernel_rfl) (by kernel_rfl) (by kernel_rfl) (fun _ _ _ h => h) rfl hT (fun W _ => ?_) ?_
                            rotate_left
                            · (go_simp; try with_reducible rfl)
                            try simp only [Act.put, List.setIfInBounds_toArray, List.set_cons_zero, List.set_cons_succ]
                            refine dr_take 20 (some 138) (v := ?_) rfl rfl (by kernel_rfl) (by kernel_rfl) (by kernel_rfl) (fun _ _ _ h => h) rfl hT (fun W _ => ?_) ?_
                            rotate_left
                            · (go_simp; try with_reducible rfl)
                            try simp only [Act.put, List.setIfInBounds_toArray, List.set_cons_zero, List.set_cons_succ]
                            refine dr_take 21 (some 139) (v := ?_) rfl rfl (by kernel_rfl) (by kernel_rfl) (by kernel_rfl) (fun _ _ _ h => h) rfl hT (fun W _ => ?_) ?_
                            rotate_left
                            · (go_simp; try with_reducible rfl)
                            try simp only [Act.put, List.setIfInBounds_toArray, List.set_cons_zero, List.set_cons_succ]
                            refine dr_take 22 (some 140) (v := ?_) rfl rfl (by kernel_rfl) (by kernel_rfl) (by kernel_rfl) (fun _ _ _ h => h) rfl hT (fun W hW => ?_) ?_
                            rotate_left
                            · (have h1 := hW.2.1; go_simp; try with_reducible rfl)
                            try simp only [Act.put, List.setIfInBounds_toArray, List.set_cons_zero, List.set_cons_succ]
                            refine dr_take 23 (some 141) (v := ?_) rfl rfl (by kernel_rfl) (by kernel_rfl) (by kernel_rfl) (fun _ _ _ h => h) rfl hT (fun W _ => ?_) ?_
                            rotate_left
                            · (go_simp; try with_reducible rfl)
                            try simp only [Act.put, List.setIfInBounds_toArray, List.set_cons_zero, List.set_cons_succ]
                            refine dr_take 24 (some 142) (v := ?_) rfl rfl (by kernel_rfl) (by kernel_rfl) (by kernel_rfl) (fun _ _ _ h => h) rfl hT (fun W _ => ?_) ?_
                            rotate_left
                            · (go_simp; try with_reducible rfl)
                            try simp only [Act.put, List.setIfInBounds_toArray, List.set_cons_zero, List.set_cons_succ]
                            refine dr_take 25 (some 143) (v := ?_) rfl rfl (by kernel_rfl) (by kernel_rfl) (by kernel_rfl) (fun _ _ _ h => h) rfl hT (fun W _ => ?_) ?_
                            rotate_left
                            · (go_simp; try with_reducible rfl)
                            try simp only [Act.put, List.setIfInBounds_toArray, List.set_cons_zero, List.set_cons_succ]
                            refine dr_take 26 (some 144) (v := ?_) rfl rfl (by kernel_rfl) (by kernel_rfl) (by kernel_rfl) (fun _ _ _ h => h) rfl hT (fun W _ => ?_) ?_
                            rotate_left
                            · (go_simp; try with_reducible rfl)
                            try simp only [Act.put, List.setIfInBounds_toArray, List.set_cons_zero, List.set_cons_succ]
                            refine dr_done (by kernel_rfl) ?_
                            go_wp2_with fail
                            go_roundw
                            case rel => exact ⟨k + 1, by omega, by go_num, own_keep hoy (Ch.refl [] wB).drew (by simp), hchy.drew⟩
                            case measure => simp [intOf]; omega
                        · obtain rfl : k = 64 := by omega
                          clear hlk hk
                          have hdE := hd2.nil hchy
                          have hcE := hc2.trans hchy (by simp)
                          go_wp2_with fail
                          go_roundw
                          case rel => exact ⟨i + 1, by omega, by go_num, hdE, hcE⟩
                          case measure => simp [intOf]; omega
                    · have t10 : (bits BinOp.and IntKind.u64 ((keep : Int) / 2 ^ i) 1 == 1) = false := by rw [hbit, beq_eq_false_iff_ne]; omega
                      clear hbit
                      have hit' := Lib.hid hit
                      clear hit
                      have hN : newsOf lb keep torn q i = q := by simp [newsOf, show i < lb.length from by rw [HLB.out]; exact hib, hit'.out]
                      have hL : dz.read i = List.replicate (q) (lb.getD i 0) ++ List.replicate (64 - (q)) (oldOf la i) := by have h9 := Hz2.out i hlt; rw [hN] at h9; exact h9
                      have hll : (dz.read i).length = 64 := by rw [hL]; simp; omega
                      have Ha := Hz1.out i hlt
                      generalize hol : oldOf la i = ol at *
                      generalize hbi : lb.getD i 0 = bi at *
                      go_wp2_with fail
                      rw [HQ.out]
                      refine (read_any b g m [] dz i wA hd Ha).mono ?_
                      rintro e w2 ⟨v2, rfl, ho2, hcr⟩
                      obtain ⟨yb, yc, rfl, hyb, hyl, hrow2⟩ := ho2.get (by rw [hll]; omega)
                      rw [hll] at hrow2
                      rw [hll]
                      have hd2 := hd.nil hcr
                      have hc2 := hch.trans hcr (by simp)
                      have hcb1 := hc2.cell hcb0 (by simp)
                      have HN := Lib.hid hN
                      have HL := Lib.hid hL
                      have HLL := Lib.hid hll
                      clear ho2 hN hL hll Ha
                      generalize hLe : dz.read i = L at *
                      have hL := HL.out
                      clear HL
                      have HL := Lib.hid hL
                      clear hL
                      go_wp2_with fail
                      clear hcb0
                      go_loopw [19] (fun j wr => ∃ k : Nat, k ≤ 64 ∧ j = .int .i64 k ∧ wr.ownsRow wA.heap.size 5 1 (.slice (some ⟨yb, 0, none⟩) 64 yc) 64 (bvs L) ∧ Ch [] w2 wr) (fun j _ => 64 - (intOf j).toNat)
                      case atStart => exact ⟨0, by omega, rfl, hrow2, Ch.refl _ _⟩
                      case round =>
                        clear hrow2
                        obtain ⟨k, hk, rfl, hoy, hchy⟩ := hrel
                        obtain ⟨wB, hwB⟩ : ∃ W, W = wr := ⟨_, rfl⟩
                        subst hwB
                        by_cases hlk : k < 64
                        · have hk64 : (k : Int) < 64 := by omega
                          have hk00 : (0 : Int) ≤ (k : Int) := by omega
                          by_cases hkN : k < q
                          · have t1 : decide ((k : Int) < (q : Int)) = true := by simpa using hkN
                            have t2 : decide ((k : Int) ≥ (q : Int)) = false := by simp; omega
                            have t3 : decide (q ≤ k) = false := by simp; omega
                            have t4 : decide (k < q) = true := by simp; omega
                            have hcy := row_byte hoy k _ (sec_new HL.out k (by omega))
                            have hcb2 := hchy.cell hcb1 (by simp)
                            go_wp2_with fail
                            refine dr_begin (by kernel_rfl) ?_
                            refine dr_more (fun W => W.cell? ⟨yb, k, none⟩ = some (.int .u8 (bi.toNat : Int)) ∧ W.cell? ⟨bb, bo + i, none⟩ = some (.int .u8 (bi.toNat : Int))) ?_
                            have hT : True ∧ (wB.drew.cell? ⟨yb, k, none⟩ = some (.int .u8 (bi.toNat : Int)) ∧ wB.drew.cell? ⟨bb, bo + i, none⟩ = some (.int .u8 (bi.toNat : Int))) := ⟨trivial, hcy, hcb2⟩
                            refine dr_take 0 (some 118) (v := ?_) rfl rfl (by kernel_rfl) (by kernel_rfl) (by kernel_rfl) (fun _ _ _ h => h) rfl hT (fun W _ => ?_) ?_
                            rotate_left
                            · (go_simp; try with_reducible rfl)
                            try simp only [Act.put, List.setIfInBounds_toArray, List.set_cons_zero, List.set_cons_succ]
                            refine dr_take 1 (some 119) (v := ?_) rfl rfl (by kernel_rfl) (by kernel_rfl) (by kernel_rfl) (fun _ _ _ h => h) rfl hT (fun W _ => ?_) ?_
                            rotate_left
                            · (go_simp; try with_reducible rfl)
                            try simp only [Act.put, List.setIfInBounds_toArray, List.set_cons_zero, List.set_cons_succ]
                            refine dr_take 2 (some 120) (v := ?_) rfl rfl (by kernel_rfl) (by kernel_rfl) (by kernel_rfl) (fun _ _ _ h => h) rfl hT (fun W _ => ?_) ?_
                            rotate_left
                            · (go_simp; try with_reducible rfl)
                            try simp only [Act.put, List.setIfInBounds_toArray, List.set_cons_zero, List.set_cons_succ]
                            refine dr_take 3 (some 121) (v := ?_) rfl rfl (by kernel_rfl) (by kernel_rfl) (by kernel_rfl) (fun _ _ _ h => h) rfl hT (fun W _ => ?_) ?_
                            rotate_left
                            · (go_simp; try with_reducible rfl)
                            try simp only [Act.put, List.setIfInBounds_toArray, List.set_cons_zero, List.set_cons_succ]
                            refine dr_take 4 (some 122) (v := ?_) rfl rfl (by kernel_rfl) (by kernel_rfl) (by kernel_rfl) (fun _ _ _ h => h) rfl hT (fun W _ => ?_) ?_
                            rotate_left
                            · (go_simp; try with_reducible rfl)
                            try simp only [Act.put, List.setIfInBounds_toArray, List.set_cons_zero, List.set_cons_succ]
                            refine dr_take 5 (some 123) (v := ?_) rfl rfl (by kernel_rfl) (by kernel_rfl) (by kernel_rfl) (fun _ _ _ h => h) rfl hT (fun W _ => ?_) ?_
                            rotate_left
                            · (go_simp; try with_reducible rfl)
                            try simp only [Act.put, List.setIfInBounds_toArray, List.set_cons_zero, List.set_cons_succ]
                            refine dr_take 6 (some 124) (v := ?_) rfl rfl (by kernel_rfl) (by kernel_rfl) (by kernel_rfl) (fun _ _ _ h => h) rfl hT (fun W _ => ?_) ?_
                            rotate_left
                            · (go_simp; try with_reducible rfl)
                            try simp only [Act.put, List.setIfInBounds_toArray, List.set_cons_zero, List.set_cons_succ]
                            refine dr_take 7 (some 125) (v := ?_) rfl rfl (by kernel_rfl) (by kernel_rfl) (by kernel_rfl) (fun _ _ _ h => h) rfl hT (fun W hW => ?_) ?_
                            rotate_left
                            · (have h1 := hW.2.1; go_simp; try with_reducible rfl)
                            try simp only [Act.put, List.setIfInBounds_toArray, List.set_cons_zero, List.set_cons_succ]
                            refine dr_take 8 (some 126) (v := ?_) rfl rfl (by kernel_rfl) (by kernel_rfl) (by kernel_rfl) (fun _ _ _ h => h) rfl hT (fun W _ => ?_) ?_
                            rotate_left
                            · (go_simp; try with_reducible rfl)
                            try simp only [Act.put, List.setIfInBounds_toArray, List.set_cons_zero, List.set_cons_succ]
                            refine dr_take 9 (some 127) (v := ?_) rfl rfl (by kernel_rfl) (by kernel_rfl) (by kernel_rfl) (fun _ _ _ h => h) rfl hT (fun W _ => ?_) ?_
                            rotate_left
                            · (go_simp; try with_reducible rfl)
                            try simp only [Act.put, List.setIfInBounds_toArray, List.set_cons_zero, List.set_cons_succ]
                            refine dr_take 10 (some 128) (v := ?_) rfl rfl (by kernel_rfl) (by kernel_rfl) (by kernel_rfl) (fun _ _ _ h => h) rfl hT (fun W _ => ?_) ?_
                            rotate_left
                            · (go_simp; try with_reducible rfl)
                            try simp only [Act.put, List.setIfInBounds_toArray, List.set_cons_zero, List.set_cons_succ]
                            refine dr_take 11 (some 129) (v := ?_) rfl rfl (by kernel_rfl) (by kernel_rfl) (by kernel_rfl) (fun _ _ _ h => h) rfl hT (fun W hW => ?_) ?_
                            rotate_left
                            · (have h1 := hW.2.2; go_simp; try with_reducible rfl)
                            try simp only [Act.put, List.setIfInBounds_toArray, List.set_cons_zero, List.set_cons_succ]
                            refine dr_take 12 (some 130) (v := ?_) rfl rfl (by kernel_rfl) (by kernel_rfl) (by kernel_rfl) (fun _ _ _ h => h) rfl hT (fun W _ => ?_) ?_
                            rotate_left
                            · (go_simp; try with_reducible rfl)
                            try simp only [Act.put, List.setIfInBounds_toArray, List.set_cons_zero, List.set_cons_succ]
                            refine dr_take 13 (some 131) (v := ?_) rfl rfl (by kernel_rfl) (by kernel_rfl) (by kernel_rfl) (fun _ _ _ h => h) rfl hT (fun W _ => ?_) ?_
                            rotate_left
                            · (go_simp; try with_reducible rfl)
                            try simp only [Act.put, List.setIfInBounds_toArray, List.set_cons_zero, List.set_cons_succ]
                            refine dr_take 14 (some 132) (v := ?_) rfl rfl (by kernel_rfl) (by kernel_rfl) (by kernel_rfl) (fun _ _ _ h => h) rfl hT (fun W _ => ?_) ?_
                            rotate_left
                            · (go_simp; try with_reducible rfl)
                            try simp only [Act.put, List.setIfInBounds_toArray, List.set_cons_zero, List.set_cons_succ]
                            refine dr_take 15 (some 133) (v := ?_) rfl rfl (by kernel_rfl) (by kernel_rfl) (by kernel_rfl) (fun _ _ _ h => h) rfl hT (fun W _ => ?_) ?_
                            rotate_left
                            · (go_simp; try with_reducible rfl)
                            try simp only [Act.put, List.setIfInBounds_toArray, List.set_cons_zero, List.set_cons_succ]
                            refine dr_take 16 (some 134) (v := ?_) rfl rfl (by kernel_rfl) (by kernel_rfl) (by kernel_rfl) (fun _ _ _ h => h) rfl hT (fun W _ => ?_) ?_
                            rotate_left
                            · (go_simp; try with_reducible rfl)
                            try simp only [Act.put, List.setIfInBounds_toArray, List.set_cons_zero, List.set_cons_succ]
                            refine dr_take 17 (some 135) (v := ?_) rfl rfl (by kernel_rfl) (by kernel_rfl) (by kernel_rfl) (fun _ _ _ h => h) rfl hT (fun W _ => ?_) ?_
                            rotate_left
                            · (go_simp; try with_reducible rfl)
                            try simp only [Act.put, List.setIfInBounds_toArray, List.set_cons_zero, List.set_cons_succ]
                            refine dr_take 18 (some 136) (v := ?_) rfl rfl (by kernel_rfl) (by kernel_rfl) (by kernel_rfl) (fun _ _ _ h => h) rfl hT (fun W _ => ?_) ?_
                            rotate_left
                            · (go_simp; try with_reducible rfl)
                            try simp only [Act.put, List.setIfInBounds_toArray, List.set_cons_zero, List.set_cons_succ]
                            refine dr_skip 19 (some 137) rfl rfl (by kernel_rfl) (by kernel_rfl) (by kernel_rfl) (fun _ _ _ h => h) rfl hT ?_
                            try simp only [Act.put, List.setIfInBounds_toArray, List.set_cons_zero, List.set_cons_succ]
                            refine dr_skip 20 (some 138) rfl rfl (by kernel_rfl) (by kernel_rfl) (by kernel_rfl) (fun _ _ _ h => h) rfl hT ?_
                            try simp only [Act.put, List.setIfInBounds_toArray, List.set_cons_zero, List.set_cons_succ]
                            refine dr_skip 21 (some 139) rfl rfl (by kernel_rfl) (by kernel_rfl) (by kernel_rfl) (fun _ _ _ h => h) rfl hT ?_
                            try simp only [Act.put, List.setIfInBounds_toArray, List.set_cons_zero, List.set_cons_succ]
                            refine dr_skip 22 (some 140) rfl rfl (by kernel_rfl) (by kernel_rfl) (by kernel_rfl) (fun _ _ _ h => h) rfl hT ?_
                            try simp only [Act.put, List.setIfInBounds_toArray, List.set_cons_zero, List.set_cons_succ]
                            refine dr_skip 23 (some 141) rfl rfl (by kernel_rfl) (by kernel_rfl) (by kernel_rfl) (fun _ _ _ h => h) rfl hT ?_
                            try simp only [Act.put, List.setIfInBounds_toArray, List.set_cons_zero, List.set_cons_succ]
                            refine dr_skip 24 (some 142) rfl rfl (by kernel_rfl) (by kernel_rfl) (by kernel_rfl) (fun _ _ _ h => h) rfl hT ?_
                            try simp only [Act.put, List.setIfInBounds_toArray, List.set_cons_zero, List.set_cons_succ]
                            refine dr_take 25 (some 143) (v := ?_) rfl rfl (by kernel_rfl) (by kernel_rfl) (by kernel_rfl) (fun _ _ _ h => h) rfl hT (fun W _ => ?_) ?_
                            rotate_left
                            · (go_simp; try with_reducible rfl)
                            try simp only [Act.put, List.setIfInBounds_toArray, List.set_cons_zero, List.set_cons_succ]
                            refine dr_take 26 (some 144) (v := ?_) rfl rfl (by kernel_rfl) (by kernel_rfl) (by kernel_rfl) (fun _ _ _ h => h) rfl hT (fun W _ => ?_) ?_
                            rotate_left
                            · (go_simp; try with_reducible rfl)
                            try simp only [Act.put, List.setIfInBounds_toArray, List.set_cons_zero, List.set_cons_succ]
                            refine dr_done (by kernel_rfl) ?_
                            go_wp2_with fail
                            go_roundw
                            case rel => exact ⟨k + 1, by omega, by go_num, own_keep hoy (Ch.refl [] wB).drew (by simp), hchy.drew⟩
                            case measure => simp [intOf]; omega
                          · have t1 : decide ((k : Int) < (q : Int)) = false := by simpa using hkN
                            have t2 : decide ((k : Int) ≥ (q : Int)) = true := by simp; omega
                            have t3 : decide (q ≤ k) = true := by simp; omega
                            have t4 : decide (k < q) = false := by simp; omega
                            have hcy := row_byte hoy k _ (sec_old HL.out k (by omega) hlk)
                            go_wp2_with fail
                            refine dr_begin (by kernel_rfl) ?_
                            refine dr_more (fun W => W.cell? ⟨yb, k, none⟩ = some (.int .u8 (ol.toNat : Int)) ∧ True) ?_
                            have hT : True ∧ (wB.drew.cell? ⟨yb, k, none⟩ = some (.int .u8 (ol.toNat : Int)) ∧ True) := ⟨trivial, hcy, trivial⟩
                            refine dr_take 0 (some 118) (v := ?_) rfl rfl (by kernel_rfl) (by kernel_rfl) (by kernel_rfl) (fun _ _ _ h => h) rfl hT (fun W _ => ?_) ?_
                            rotate_left
                            · (go_simp; try with_reducible rfl)
                            try simp only [Act.put, List.setIfInBounds_toArray, List.set_cons_zero, List.set_cons_succ]
                            refine dr_take 1 (some 119) (v := ?_) rfl rfl (by kernel_rfl) (by kernel_rfl) (by kernel_rfl) (fun _ _ _ h => h) rfl hT (fun W _ => ?_) ?_
                            rotate_left
                            · (go_simp; try with_reducible rfl)
                            try simp only [Act.put, List.setIfInBounds_toArray, List.set_cons_zero, List.set_cons_succ]
                            refine dr_take 2 (some 120) (v := ?_) rfl rfl (by kernel_rfl) (by kernel_rfl) (by kernel_rfl) (fun _ _ _ h => h) rfl hT (fun W _ => ?_) ?_
                            rotate_left
                            · (go_simp; try with_reducible rfl)
                            try simp only [Act.put, List.setIfInBounds_toArray, List.set_cons_zero, List.set_cons_succ]
                            refine dr_take 3 (some 121) (v := ?_) rfl rfl (by kernel_rfl) (by kernel_rfl) (by kernel_rfl) (fun _ _ _ h => h) rfl hT (fun W _ => ?_) ?_
                            rotate_left
                            · (go_simp; try with_reducible rfl)
                            try simp only [Act.put, List.setIfInBounds_toArray, List.set_cons_zero, List.set_cons_succ]
                            refine dr_skip 4 (some 122) rfl rfl (by kernel_rfl) (by kernel_rfl) (by kernel_rfl) (fun _ _ _ h => h) rfl hT ?_
                            try simp only [Act.put, List.setIfInBounds_toArray, List.set_cons_zero, List.set_cons_succ]
                            refine dr_skip 5 (some 123) rfl rfl (by kernel_rfl) (by kernel_rfl) (by kernel_rfl) (fun _ _ _ h => h) rfl hT ?_
                            try simp only [Act.put, List.setIfInBounds_toArray, List.set_cons_zero, List.set_cons_succ]
                            refine dr_skip 6 (some 124) rfl rfl (by kernel_rfl) (by kernel_rfl) (by kernel_rfl) (fun _ _ _ h => h) rfl hT ?_
                            try simp only [Act.put, List.setIfInBounds_toArray, List.set_cons_zero, List.set_cons_succ]
                            refine dr_skip 7 (some 125) rfl rfl (by kernel_rfl) (by kernel_rfl) (by kernel_rfl) (fun _ _ _ h => h) rfl hT ?_
                            try simp only [Act.put, List.setIfInBounds_toArray, List.set_cons_zero, List.set_cons_succ]
                            refine dr_skip 8 (some 126) rfl rfl (by kernel_rfl) (by kernel_rfl) (by kernel_rfl) (fun _ _ _ h => h) rfl hT ?_
                            try simp only [Act.put, List.setIfInBounds_toArray, List.set_cons_zero, List.set_cons_succ]
                            refine dr_skip 9 (some 127) rfl rfl (by kernel_rfl) (by kernel_rfl) (by kernel_rfl) (fun _ _ _ h => h) rfl hT ?_
                            try simp only [Act.put, List.setIfInBounds_toArray, List.set_cons_zero, List.set_cons_succ]
                            refine dr_skip 10 (some 128) rfl rfl (by kernel_rfl) (by kernel_rfl) (by kernel_rfl) (fun _ _ _ h => h) rfl hT ?_
                            try simp only [Act.put, List.setIfInBounds_toArray, List.set_cons_zero, List.set_cons_succ]
                            refine dr_skip 11 (some 129) rfl rfl (by kernel_rfl) (by kernel_rfl) (by kernel_rfl) (fun _ _ _ h => h) rfl hT ?_
                            try simp only [Act.put, List.setIfInBounds_toArray, List.set_cons_zero, List.set_cons_succ]
                            refine dr_skip 12 (some 130) rfl rfl (by kernel_rfl) (by kernel_rfl) (by kernel_rfl) (fun _ _ _ h => h) rfl hT ?_
                            try simp only [Act.put, List.setIfInBounds_toArray, List.set_cons_zero, List.set_cons_succ]
                            refine dr_take 13 (some 131) (v := ?_) rfl rfl (by kernel_rfl) (by kernel_rfl) (by kernel_rfl) (fun _ _ _ h => h) rfl hT (fun W _ => ?_) ?_
                            rotate_left
                            · (go_simp; try with_reducible rfl)
                            try simp only [Act.put, List.setIfInBounds_toArray, List.set_cons_zero, List.set_cons_succ]
                            refine dr_take 14 (some 132) (v := ?_) rfl rfl (by kernel_rfl) (by kernel_rfl) (by kernel_rfl) (fun _ _ _ h => h) rfl hT (fun W _ => ?_) ?_
                            rotate_left
                            · (go_simp; try with_reducible rfl)
                            try simp only [Act.put, List.setIfInBounds_toArray, List.set_cons_zero, List.set_cons_succ]
                            refine dr_take 15 (some 133) (v := ?_) rfl rfl (by kernel_rfl) (by kernel_rfl) (by kernel_rfl) (fun _ _ _ h => h) rfl hT (fun W _ => ?_) ?_
                            rotate_left
                            · (go_simp; try with_reducible rfl)
                            try simp only [Act.put, List.setIfInBounds_toArray, List.set_cons_zero, List.set_cons_succ]
                            refine dr_take 16 (some 134) (v := ?_) rfl rfl (by kernel_rfl) (by kernel_rfl) (by kernel_rfl) (fun _ _ _ h => h) rfl hT (fun W _ => ?_) ?_
                            rotate_left
                            · (go_simp; try with_reducible rfl)
                            try simp only [Act.put, List.setIfInBounds_toArray, List.set_cons_zero, List.set_cons_succ]
                            refine dr_take 17 (some 135) (v := ?_) rfl rfl (by kernel_rfl) (by kernel_rfl) (by kernel_rfl) (fun _ _ _ h => h) rfl hT (fun W _ => ?_) ?_
                            rotate_left
                            · (go_simp; try with_reducible rfl)
                            try simp only [Act.put, List.setIfInBounds_toArray, List.set_cons_zero, List.set_cons_succ]
                            refine dr_take 18 (some 136) (v := ?_) rfl rfl (by kernel_rfl) (by kernel_rfl) (by kernel_rfl) (fun _ _ _ h => h) rfl hT (fun W _ => ?_) ?_
                            rotate_left
                            · (go_simp; try with_reducible rfl)
                            try simp only [Act.put, List.setIfInBounds_toArray, List.set_cons_zero, List.set_cons_succ]
                            refine dr_take 19 (some 137) (v := ?_) rfl rfl (by kernel_rfl) (by kernel_rfl) (by kernel_rfl) (fun _ _ _ h => h) rfl hT (fun W _ => ?_) ?_
                            rotate_left
                            · (go_simp; try with_reducible rfl)
                            try simp only [Act.put, List.setIfInBounds_toArray, List.set_cons_zero, List.set_cons_succ]
                            refine dr_take 20 (some 138) (v := ?_) rfl rfl (by kernel_rfl) (by kernel_rfl) (by kernel_rfl) (fun _ _ _ h => h) rfl hT (fun W _ => ?_) ?_
                            rotate_left
                            · (go_simp; try with_reducible rfl)
                            try simp only [Act.put, List.setIfInBounds_toArray, List.set_cons_zero, List.set_cons_succ]
                            refine dr_take 21 (some 139) (v := ?_) rfl rfl (by kernel_rfl) (by kernel_rfl) (by kernel_rfl) (fun _ _ _ h => h) rfl hT (fun W _ => ?_) ?_
                            rotate_left
                            · (go_simp; try with_reducible rfl)
                            try simp only [Act.put, List.setIfInBounds_toArray, List.set_cons_zero, List.set_cons_succ]
                            refine dr_take 22 (some 140) (v := ?_) rfl rfl (by kernel_rfl) (by kernel_rfl) (by kernel_rfl) (fun _ _ _ h => h) rfl hT (fun W hW => ?_) ?_
                            rotate_left
                            · (have h1 := hW.2.1; go_simp; try with_reducible rfl)
                            try simp only [Act.put, List.setIfInBounds_toArray, List.set_cons_zero, List.set_cons_succ]
                            refine dr_take 23 (some 141) (v := ?_) rfl rfl (by kernel_rfl) (by kernel_rfl) (by kernel_rfl) (fun _ _ _ h => h) rfl hT (fun W _ => ?_) ?_
                            rotate_left
                            · (go_simp; try with_reducible rfl)
                            try simp only [Act.put, List.setIfInBounds_toArray, List.set_cons_zero, List.set_cons_succ]
                            refine dr_take 24 (some 142) (v := ?_) rfl rfl (by kernel_rfl) (by kernel_rfl) (by kernel_rfl) (fun _ _ _ h => h) rfl hT (fun W _ => ?_) ?_
                            rotate_left
                            · (go_simp; try with_reducible rfl)
                            try simp only [Act.put, List.setIfInBounds_toArray, List.set_cons_zero, List.set_cons_succ]
                            refine dr_take 25 (some 143) (v := ?_) rfl rfl (by kernel_rfl) (by kernel_rfl) (by kernel_rfl) (fun _ _ _ h => h) rfl hT (fun W _ => ?_) ?_
                            rotate_left
                            · (go_simp; try with_reducible rfl)
                            try simp only [Act.put, List.setIfInBounds_toArray, List.set_cons_zero, List.set_cons_succ]
                            refine dr_take 26 (some 144) (v := ?_) rfl rfl (by kernel_rfl) (by kernel_rfl) (by kernel_rfl) (fun _ _ _ h => h) rfl hT (fun W _ => ?_) ?_
                            rotate_left
                            · (go_simp; try with_reducible rfl)
                            try simp only [Act.put, List.setIfInBounds_toArray, List.set_cons_zero, List.set_cons_succ]
                            refine dr_done (by kernel_rfl) ?_
                            go_wp2_with fail
                            go_roundw
                            case rel => exact ⟨k + 1, by omega, by go_num, own_keep hoy (Ch.refl [] wB).drew (by simp), hchy.drew⟩
                            case measure => simp [intOf]; omega
                        · obtain rfl : k = 64 := by omega
                          clear hlk hk
                          have hdE := hd2.nil hchy
                          have hcE := hc2.trans hchy (by simp)
                          go_wp2_with fail
                          go_roundw
                          case rel => exact ⟨i + 1, by omega, by go_num, hdE, hcE⟩
                          case measure => simp [intOf]; omega
                  · have t9 : ((i : Int) == torn) = false := by rw [beq_eq_false_iff_ne]; exact hit
                    by_cases hbb : keep / 2 ^ i % 2 = 1
                    · have t10 : (bits BinOp.and IntKind.u64 ((keep : Int) / 2 ^ i) 1 == 1) = true := by rw [hbit, hbb]; rfl
                      clear hbit
                      have hit' := Lib.hid hit
                      clear hit
                      have hN : newsOf lb keep torn q i = 64 := by simp [newsOf, show i < lb.length from by rw [HLB.out]; exact hib, hit'.out, hbb]
                      have hL : dz.read i = List.replicate (64) (lb.getD i 0) ++ List.replicate (64 - (64)) (oldOf la i) := by have h9 := Hz2.out i hlt; rw [hN] at h9; exact h9
                      have hll : (dz.read i).length = 64 := by rw [hL]; simp
                      have Ha := Hz1.out i hlt
                      generalize hol : oldOf la i = ol at *
                      generalize hbi : lb.getD i 0 = bi at *
                      go_wp2_with fail
                      refine (read_any b g m [] dz i wA hd Ha).mono ?_
                      rintro e w2 ⟨v2, rfl, ho2, hcr⟩
                      obtain ⟨yb, yc, rfl, hyb, hyl, hrow2⟩ := ho2.get (by rw [hll]; omega)
                      rw [hll] at hrow2
                      rw [hll]
                      have hd2 := hd.nil hcr
                      have hc2 := hch.trans hcr (by simp)
                      have hcb1 := hc2.cell hcb0 (by simp)
                      have HN := Lib.hid hN
                      have HL := Lib.hid hL
                      have HLL := Lib.hid hll
                      clear ho2 hN hL hll Ha
                      generalize hLe : dz.read i = L at *
                      have hL := HL.out
                      clear HL
                      have HL := Lib.hid hL
                      clear hL
                      go_wp2_with fail
                      clear hcb0
                      go_loopw [19] (fun j wr => ∃ k : Nat, k ≤ 64 ∧ j = .int .i64 k ∧ wr.ownsRow wA.heap.size 5 1 (.slice (some ⟨yb, 0, none⟩) 64 yc) 64 (bvs L) ∧ Ch [] w2 wr) (fun j _ => 64 - (intOf j).toNat)
                      case atStart => exact ⟨0, by omega, rfl, hrow2, Ch.refl _ _⟩
                      case round =>
                        clear hrow2
                        obtain ⟨k, hk, rfl, hoy, hchy⟩ := hrel
                        obtain ⟨wB, hwB⟩ : ∃ W, W = wr := ⟨_, rfl⟩
                        subst hwB
                        by_cases hlk : k < 64
                        · have hk64 : (k : Int) < 64 := by omega
                          have hk00 : (0 : Int) ≤ (k : Int) := by omega
                          have t1 : decide ((k : Int) < 64) = true := by simp; omega
                          have t2 : decide ((k : Int) ≥ 64) = false := by simp; omega
                          have t3 : decide ((64 : Int) ≤ (k : Int)) = false := by simp; omega
                          have hcy := row_byte hoy k _ (sec_new HL.out k (by omega))
                          have hcb2 := hchy.cell hcb1 (by simp)
                          go_wp2_with fail
                          refine dr_begin (by kernel_rfl) ?_
                          refine dr_more (fun W => W.cell? ⟨yb, k, none⟩ = some (.int .u8 (bi.toNat : Int)) ∧ W.cell? ⟨bb, bo + i, none⟩ = some (.int .u8 (bi.toNat : Int))) ?_
                          have hT : True ∧ (wB.drew.cell? ⟨yb, k, none⟩ = some (.int .u8 (bi.toNat : Int)) ∧ wB.drew.cell? ⟨bb, bo + i, none⟩ = some (.int .u8 (bi.toNat : Int))) := ⟨trivial, hcy, hcb2⟩
                          refine dr_take 0 (some 118) (v := ?_) rfl rfl (by kernel_rfl) (by kernel_rfl) (by kernel_rfl) (fun _ _ _ h => h) rfl hT (fun W _ => ?_) ?_
                          rotate_left
                          · (go_simp; try with_reducible rfl)
                          try simp only [Act.put, List.setIfInBounds_toArray, List.set_cons_zero, List.set_cons_succ]
                          refine dr_take 1 (some 119) (v := ?_) rfl rfl (by kernel_rfl) (by kernel_rfl) (by kernel_rfl) (fun _ _ _ h => h) rfl hT (fun W _ => ?_) ?_
                          rotate_left
                          · (go_simp; try with_reducible rfl)
                          try simp only [Act.put, List.setIfInBounds_toArray, List.set_cons_zero, List.set_cons_succ]
                          refine dr_take 2 (some 120) (v := ?_) rfl rfl (by kernel_rfl) (by kernel_rfl) (by kernel_rfl) (fun _ _ _ h => h) rfl hT (fun W _ => ?_) ?_
                          rotate_left
                          · (go_simp; try with_reducible rfl)
                          try simp only [Act.put, List.setIfInBounds_toArray, List.set_cons_zero, List.set_cons_succ]
                          refine dr_take 3 (some 121) (v := ?_) rfl rfl (by kernel_rfl) (by kernel_rfl) (by kernel_rfl) (fun _ _ _ h => h) rfl hT (fun W _ => ?_) ?_
                          rotate_left
                          · (go_simp; try with_reducible rfl)
                          try simp only [Act.put, List.setIfInBounds_toArray, List.set_cons_zero, List.set_cons_succ]
                          refine dr_take 4 (some 122) (v := ?_) rfl rfl (by kernel_rfl) (by kernel_rfl) (by kernel_rfl) (fun _ _ _ h => h) rfl hT (fun W _ => ?_) ?_
                          rotate_left
                          · (go_simp; try with_reducible rfl)
                          try simp only [Act.put, List.setIfInBounds_toArray, List.set_cons_zero, List.set_cons_succ]
                          refine dr_take 5 (some 123) (v := ?_) rfl rfl (by kernel_rfl) (by kernel_rfl) (by kernel_rfl) (fun _ _ _ h => h) rfl hT (fun W _ => ?_) ?_
                          rotate_left
                          · (go_simp; try with_reducible rfl)
                          try simp only [Act.put, List.setIfInBounds_toArray, List.set_cons_zero, List.set_cons_succ]
                          refine dr_take 6 (some 124) (v := ?_) rfl rfl (by kernel_rfl) (by kernel_rfl) (by kernel_rfl) (fun _ _ _ h => h) rfl hT (fun W _ => ?_) ?_
                          rotate_left
                          · (go_simp; try with_reducible rfl)
                          try simp only [Act.put, List.setIfInBounds_toArray, List.set_cons_zero, List.set_cons_succ]
                          refine dr_take 7 (some 125) (v := ?_) rfl rfl (by kernel_rfl) (by kernel_rfl) (by kernel_rfl) (fun _ _ _ h => h) rfl hT (fun W hW => ?_) ?_
                          rotate_left
                          · (have h1 := hW.2.1; go_simp; try with_reducible rfl)
                          try simp only [Act.put, List.setIfInBounds_toArray, List.set_cons_zero, List.set_cons_succ]
                          refine dr_take 8 (some 126) (v := ?_) rfl rfl (by kernel_rfl) (by kernel_rfl) (by kernel_rfl) (fun _ _ _ h => h) rfl hT (fun W _ => ?_) ?_
                          rotate_left
                          · (go_simp; try with_reducible rfl)
                          try simp only [Act.put, List.setIfInBounds_toArray, List.set_cons_zero, List.set_cons_succ]
                          refine dr_take 9 (some 127) (v := ?_) rfl rfl (by kernel_rfl) (by kernel_rfl) (by kernel_rfl) (fun _ _ _ h => h) rfl hT (fun W _ => ?_) ?_
                          rotate_left
                          · (go_simp; try with_reducible rfl)
                          try simp only [Act.put, List.setIfInBounds_toArray, List.set_cons_zero, List.set_cons_succ]
                          refine dr_take 10 (some 128) (v := ?_) rfl rfl (by kernel_rfl) (by kernel_rfl) (by kernel_rfl) (fun _ _ _ h => h) rfl hT (fun W _ => ?_) ?_
                          rotate_left
                          · (go_simp; try with_reducible rfl)
                          try simp only [Act.put, List.setIfInBounds_toArray, List.set_cons_zero, List.set_cons_succ]
                          refine dr_take 11 (some 129) (v := ?_) rfl rfl (by kernel_rfl) (by kernel_rfl) (by kernel_rfl) (fun _ _ _ h => h) rfl hT (fun W hW => ?_) ?_
                          rotate_left
                          · (have h1 := hW.2.2; go_simp; try with_reducible rfl)
                          try simp only [Act.put, List.setIfInBounds_toArray, List.set_cons_zero, List.set_cons_succ]
                          refine dr_take 12 (some 130) (v := ?_) rfl rfl (by kernel_rfl) (by kernel_rfl) (by kernel_rfl) (fun _ _ _ h => h) rfl hT (fun W _ => ?_) ?_
                          rotate_left
                          · (go_simp; try with_reducible rfl)
                          try simp only [Act.put, List.setIfInBounds_toArray, List.set_cons_zero, List.set_cons_succ]
                          refine dr_take 13 (some 131) (v := ?_) rfl rfl (by kernel_rfl) (by kernel_rfl) (by kernel_rfl) (fun _ _ _ h => h) rfl hT (fun W _ => ?_) ?_
                          rotate_left
                          · (go_simp; try with_reducible rfl)
                          try simp only [Act.put, List.setIfInBounds_toArray, List.set_cons_zero, List.set_cons_succ]
                          refine dr_take 14 (some 132) (v := ?_) rfl rfl (by kernel_rfl) (by kernel_rfl) (by kernel_rfl) (fun _ _ _ h => h) rfl hT (fun W _ => ?_) ?_
                          rotate_left
                          · (go_simp; try with_reducible rfl)
                          try simp only [Act.put, List.setIfInBounds_toArray, List.set_cons_zero, List.set_cons_succ]
                          refine dr_take 15 (some 133) (v := ?_) rfl rfl (by kernel_rfl) (by kernel_rfl) (by kernel_rfl) (fun _ _ _ h => h) rfl hT (fun W _ => ?_) ?_
                          rotate_left
                          · (go_simp; try with_reducible rfl)
                          try simp only [Act.put, List.setIfInBounds_toArray, List.set_cons_zero, List.set_cons_succ]
                          refine dr_take 16 (some 134) (v := ?_) rfl rfl (by kernel_rfl) (by kernel_rfl) (by kernel_rfl) (fun _ _ _ h => h) rfl hT (fun W _ => ?_) ?_
                          rotate_left
                          · (go_simp; try with_reducible rfl)
                          try simp only [Act.put, List.setIfInBounds_toArray, List.set_cons_zero, List.set_cons_succ]
                          refine dr_take 17 (some 135) (v := ?_) rfl rfl (by kernel_rfl) (by kernel_rfl) (by kernel_rfl) (fun _ _ _ h => h) rfl hT (fun W _ => ?_) ?_
                          rotate_left
                          · (go_simp; try with_reducible rfl)
                          try simp only [Act.put, List.setIfInBounds_toArray, List.set_cons_zero, List.set_cons_succ]
                          refine dr_take 18 (some 136) (v := ?_) rfl rfl (by kernel_rfl) (by kernel_rfl) (by kernel_rfl) (fun _ _ _ h => h) rfl hT (fun W _ => ?_) ?_
                          rotate_left
                          · (go_simp; try with_reducible rfl)
                          try simp only [Act.put, List.setIfInBounds_toArray, List.set_cons_zero, List.set_cons_succ]
                          refine dr_skip 19 (some 137) rfl rfl (by kernel_rfl) (by kernel_rfl) (by kernel_rfl) (fun _ _ _ h => h) rfl hT ?_
                          try simp only [Act.put, List.setIfInBounds_toArray, List.set_cons_zero, List.set_cons_succ]
                          refine dr_skip 20 (some 138) rfl rfl (by kernel_rfl) (by kernel_rfl) (by kernel_rfl) (fun _ _ _ h => h) rfl hT ?_
                          try simp only [Act.put, List.setIfInBounds_toArray, List.set_cons_zero, List.set_cons_succ]
                          refine dr_skip 21 (some 139) rfl rfl (by kernel_rfl) (by kernel_rfl) (by kernel_rfl) (fun _ _ _ h => h) rfl hT ?_
                          try simp only [Act.put, List.setIfInBounds_toArray, List.set_cons_zero, List.set_cons_succ]
                          refine dr_skip 22 (some 140) rfl rfl (by kernel_rfl) (by kernel_rfl) (by kernel_rfl) (fun _ _ _ h => h) rfl hT ?_
                          try simp only [Act.put, List.setIfInBounds_toArray, List.set_cons_zero, List.set_cons_succ]
                          refine dr_skip 23 (some 141) rfl rfl (by kernel_rfl) (by kernel_rfl) (by kernel_rfl) (fun _ _ _ h => h) rfl hT ?_
                          try simp only [Act.put, List.setIfInBounds_toArray, List.set_cons_zero, List.set_cons_succ]
                          refine dr_skip 24 (some 142) rfl rfl (by kernel_rfl) (by kernel_rfl) (by kernel_rfl) (fun _ _ _ h => h) rfl hT ?_
                          try simp only [Act.put, List.setIfInBounds_toArray, List.set_cons_zero, List.set_cons_succ]
                          refine dr_take 25 (some 143) (v := ?_) rfl rfl (by kernel_rfl) (by kernel_rfl) (by kernel_rfl) (fun _ _ _ h => h) rfl hT (fun W _ => ?_) ?_
                          rotate_left
                          · (go_simp; try with_reducible rfl)
                          try simp only [Act.put, List.setIfInBounds_toArray, List.set_cons_zero, List.set_cons_succ]
                          refine dr_take 26 (some 144) (v := ?_) rfl rfl (by kernel_rfl) (by kernel_rfl) (by kernel_rfl) (fun _ _ _ h => h) rfl hT (fun W _ => ?_) ?_
                          rotate_left
                          · (go_simp; try with_reducible rfl)
                          try simp only [Act.put, List.setIfInBounds_toArray, List.set_cons_zero, List.set_cons_succ]
                          refine dr_done (by kernel_rfl) ?_
                          go_wp2_with fail
                          go_roundw
                          case rel => exact ⟨k + 1, by omega, by go_num, own_keep hoy (Ch.refl [] wB).drew (by simp), hchy.drew⟩
                          case measure => simp [intOf]; omega
                        · obtain rfl : k = 64 := by omega
                          clear hlk hk
                          have hdE := hd2.nil hchy
                          have hcE := hc2.trans hchy (by simp)
                          go_wp2_with fail
                          go_roundw
                          case rel => exact ⟨i + 1, by omega, by go_num, hdE, hcE⟩
                          case measure => simp [intOf]; omega
                    · have t10 : (bits BinOp.and IntKind.u64 ((keep : Int) / 2 ^ i) 1 == 1) = false := by rw [hbit, beq_eq_false_iff_ne]; omega
                      clear hbit
                      have hit' := Lib.hid hit
                      clear hit
                      have hN : newsOf lb keep torn q i = 0 := by simp [newsOf, show i < lb.length from by rw [HLB.out]; exact hib, hit'.out, hbb]
                      have hL : dz.read i = List.replicate (0) (lb.getD i 0) ++ List.replicate (64 - (0)) (oldOf la i) := by have h9 := Hz2.out i hlt; rw [hN] at h9; exact h9
                      have hll : (dz.read i).length = 64 := by rw [hL]; simp
                      have Ha := Hz1.out i hlt
                      generalize hol : oldOf la i = ol at *
                      generalize hbi : lb.getD i 0 = bi at *
                      go_wp2_with fail
                      refine (read_any b g m [] dz i wA hd Ha).mono ?_
                      rintro e w2 ⟨v2, rfl, ho2, hcr⟩
                      obtain ⟨yb, yc, rfl, hyb, hyl, hrow2⟩ := ho2.get (by rw [hll]; omega)
                      rw [hll] at hrow2
                      rw [hll]
                      have hd2 := hd.nil hcr
                      have hc2 := hch.trans hcr (by simp)
                      have HN := Lib.hid hN
                      have HL := Lib.hid hL
                      have HLL := Lib.hid hll
                      clear ho2 hN hL hll Ha
                      generalize hLe : dz.read i = L at *
                      have hL := HL.out
                      clear HL
                      have HL := Lib.hid hL
                      clear hL
                      go_wp2_with fail
                      clear hcb0
                      go_loopw [19] (fun j wr => ∃ k : Nat, k ≤ 64 ∧ j = .int .i64 k ∧ wr.ownsRow wA.heap.size 5 1 (.slice (some ⟨yb, 0, none⟩) 64 yc) 64 (bvs L) ∧ Ch [] w2 wr) (fun j _ => 64 - (intOf j).toNat)
                      case atStart => exact ⟨0, by omega, rfl, hrow2, Ch.refl _ _⟩
                      case round =>
                        clear hrow2
                        obtain ⟨k, hk, rfl, hoy, hchy⟩ := hrel
                        obtain ⟨wB, hwB⟩ : ∃ W, W = wr := ⟨_, rfl⟩
                        subst hwB
                        by_cases hlk : k < 64
                        · have hk64 : (k : Int) < 64 := by omega
                          have hk00 : (0 : Int) ≤ (k : Int) := by omega
                          have t1 : decide ((k : Int) < 0) = false := by simp
                          have t2 : decide ((k : Int) ≥ 0) = true := by simp
                          have t3 : decide ((0 : Int) ≤ (k : Int)) = true := by simp
                          have hcy := row_byte hoy k _ (sec_old HL.out k (by omega) hlk)
                          go_wp2_with fail
                          refine dr_begin (by kernel_rfl) ?_
                          refine dr_more (fun W => W.cell? ⟨yb, k, none⟩ = some (.int .u8 (ol.toNat : Int)) ∧ True) ?_
                          have hT : True ∧ (wB.drew.cell? ⟨yb, k, none⟩ = some (.int .u8 (ol.toNat : Int)) ∧ True) := ⟨trivial, hcy, trivial⟩
                          refine dr_take 0 (some 118) (v := ?_) rfl rfl (by kernel_rfl) (by kernel_rfl) (by kernel_rfl) (fun _ _ _ h => h) rfl hT (fun W _ => ?_) ?_
                          rotate_left
                          · (go_simp; try with_reducible rfl)
                          try simp only [Act.put, List.setIfInBounds_toArray, List.set_cons_zero, List.set_cons_succ]
                          refine dr_take 1 (some 119) (v := ?_) rfl rfl (by kernel_rfl) (by kernel_rfl) (by kernel_rfl) (fun _ _ _ h => h) rfl hT (fun W _ => ?_) ?_
                          rotate_left
                          · (go_simp; try with_reducible rfl)
                          try simp only [Act.put, List.setIfInBounds_toArray, List.set_cons_zero, List.set_cons_succ]
                          refine dr_take 2 (some 120) (v := ?_) rfl rfl (by kernel_rfl) (by kernel_rfl) (by kernel_rfl) (fun _ _ _ h => h) rfl hT (fun W _ => ?_) ?_
                          rotate_left
                          · (go_simp; try with_reducible rfl)
                          try simp only [Act.put, List.setIfInBounds_toArray, List.set_cons_zero, List.set_cons_succ]
                          refine dr_take 3 (some 121) (v := ?_) rfl rfl (by kernel_rfl) (by kernel_rfl) (by kernel_rfl) (fun _ _ _ h => h) rfl hT (fun W _ => ?_) ?_
                          rotate_left
                          · (go_simp; try with_reducible rfl)
                          try simp only [Act.put, List.setIfInBounds_toArray, List.set_cons_zero, List.set_cons_succ]
                          refine dr_skip 4 (some 122) rfl rfl (by kernel_rfl) (by kernel_rfl) (by kernel_rfl) (fun _ _ _ h => h) rfl hT ?_
                          try simp only [Act.put, List.setIfInBounds_toArray, List.set_cons_zero, List.set_cons_succ]
                          refine dr_skip 5 (some 123) rfl rfl (by kernel_rfl) (by kernel_rfl) (by kernel_rfl) (fun _ _ _ h => h) rfl hT ?_
                          try simp only [Act.put, List.setIfInBounds_toArray, List.set_cons_zero, List.set_cons_succ]
                          refine dr_skip 6 (some 124) rfl rfl (by kernel_rfl) (by kernel_rfl) (by kernel_rfl) (fun _ _ _ h => h) rfl hT ?_
                          try simp only [Act.put, List.setIfInBounds_toArray, List.set_cons_zero, List.set_cons_succ]
                          refine dr_skip 7 (some 125) rfl rfl (by kernel_rfl) (by kernel_rfl) (by kernel_rfl) (fun _ _ _ h => h) rfl hT ?_
                          try simp only [Act.put, List.setIfInBounds_toArray, List.set_cons_zero, List.set_cons_succ]
                          refine dr_skip 8 (some 126) rfl rfl (by kernel_rfl) (by kernel_rfl) (by kernel_rfl) (fun _ _ _ h => h) rfl hT ?_
                          try simp only [Act.put, List.setIfInBounds_toArray, List.set_cons_zero, List.set_cons_succ]
                          refine dr_skip 9 (some 127) rfl rfl (by kernel_rfl) (by kernel_rfl) (by kernel_rfl) (fun _ _ _ h => h) rfl hT ?_
                          try simp only [Act.put, List.setIfInBounds_toArray, List.set_cons_zero, List.set_cons_succ]
                          refine dr_skip 10 (some 128) rfl rfl (by kernel_rfl) (by kernel_rfl) (by kernel_rfl) (fun _ _ _ h => h) rfl hT ?_
                          try simp only [Act.put, List.setIfInBounds_toArray, List.set_cons_zero, List.set_cons_succ]
                          refine dr_skip 11 (some 129) rfl rfl (by kernel_rfl) (by kernel_rfl) (by kernel_rfl) (fun _ _ _ h => h) rfl hT ?_
                          try simp only [Act.put, List.setIfInBounds_toArray, List.set_cons_zero, List.set_cons_succ]
                          refine dr_skip 12 (some 130) rfl rfl (by kernel_rfl) (by kernel_rfl) (by kernel_rfl) (fun _ _ _ h => h) rfl hT ?_
                          try simp only [Act.put, List.setIfInBounds_toArray, List.set_cons_zero, List.set_cons_succ]
                          refine dr_take 13 (some 131) (v := ?_) rfl rfl (by kernel_rfl) (by kernel_rfl) (by kernel_rfl) (fun _ _ _ h => h) rfl hT (fun W _ => ?_) ?_
                          rotate_left
                          · (go_simp; try with_reducible rfl)
                          try simp only [Act.put, List.setIfInBounds_toArray, List.set_cons_zero, List.set_cons_succ]
                          refine dr_take 14 (some 132) (v := ?_) rfl rfl (by kernel_rfl) (by kernel_rfl) (by kernel_rfl) (fun _ _ _ h => h) rfl hT (fun W _ => ?_) ?_
                          rotate_left
                          · (go_simp; try with_reducible rfl)
                          try simp only [Act.put, List.setIfInBounds_toArray, List.set_cons_zero, List.set_cons_succ]
                          refine dr_take 15 (some 133) (v := ?_) rfl rfl (by kernel_rfl) (by kernel_rfl) (by kernel_rfl) (fun _ _ _ h => h) rfl hT (fun W _ => ?_) ?_
                          rotate_left
                          · (go_simp; try with_reducible rfl)
                          try simp only [Act.put, List.setIfInBounds_toArray, List.set_cons_zero, List.set_cons_succ]
                          refine dr_take 16 (some 134) (v := ?_) rfl rfl (by kernel_rfl) (by kernel_rfl) (by kernel_rfl) (fun _ _ _ h => h) rfl hT (fun W _ => ?_) ?_
                          rotate_left
                          · (go_simp; try with_reducible rfl)
                          try simp only [Act.put, List.setIfInBounds_toArray, List.set_cons_zero, List.set_cons_succ]
                          refine dr_take 17 (some 135) (v := ?_) rfl rfl (by kernel_rfl) (by kernel_rfl) (by kernel_rfl) (fun _ _ _ h => h) rfl hT (fun W _ => ?_) ?_
                          rotate_left
                          · (go_simp; try with_reducible rfl)
                          try simp only [Act.put, List.setIfInBounds_toArray, List.set_cons_zero, List.set_cons_succ]
                          refine dr_take 18 (some 136) (v := ?_) rfl rfl (by kernel_rfl) (by kernel_rfl) (by kernel_rfl) (fun _ _ _ h => h) rfl hT (fun W _ => ?_) ?_
                          rotate_left
                          · (go_simp; try with_reducible rfl)
                          try simp only [Act.put, List.setIfInBounds_toArray, List.set_cons_zero, List.set_cons_succ]
                          refine dr_take 19 (some 137) (v := ?_) rfl rfl (by kernel_rfl) (by kernel_rfl) (by kernel_rfl) (fun _ _ _ h => h) rfl hT (fun W _ => ?_) ?_
                          rotate_left
                          · (go_simp; try with_reducible rfl)
                          try simp only [Act.put, List.setIfInBounds_toArray, List.set_cons_zero, List.set_cons_succ]
                          refine dr_take 20 (some 138) (v := ?_) rfl rfl (by kernel_rfl) (by kernel_rfl) (by kernel_rfl) (fun _ _ _ h => h) rfl hT (fun W _ => ?_) ?_
                          rotate_left
                          · (go_simp; try with_reducible rfl)
                          try simp only [Act.put, List.setIfInBounds_toArray, List.set_cons_zero, List.set_cons_succ]
                          refine dr_take 21 (some 139) (v := ?_) rfl rfl (by kernel_rfl) (by kernel_rfl) (by kernel_rfl) (fun _ _ _ h => h) rfl hT (fun W _ => ?_) ?_
                          rotate_left
                          · (go_simp; try with_reducible rfl)
                          try simp only [Act.put, List.setIfInBounds_toArray, List.set_cons_zero, List.set_cons_succ]
                          refine dr_take 22 (some 140) (v := ?_) rfl rfl (by kernel_rfl) (by kernel_rfl) (by kernel_rfl) (fun _ _ _ h => h) rfl hT (fun W hW => ?_) ?_
                          rotate_left
                          · (have h1 := hW.2.1; go_simp; try with_reducible rfl)
                          try simp only [Act.put, List.setIfInBounds_toArray, List.set_cons_zero, List.set_cons_succ]
                          refine dr_take 23 (some 141) (v := ?_) rfl rfl (by kernel_rfl) (by kernel_rfl) (by kernel_rfl) (fun _ _ _ h => h) rfl hT (fun W _ => ?_) ?_
                          rotate_left
                          · (go_simp; try with_reducible rfl)
                          try simp only [Act.put, List.setIfInBounds_toArray, List.set_cons_zero, List.set_cons_succ]
                          refine dr_take 24 (some 142) (v := ?_) rfl rfl (by kernel_rfl) (by kernel_rfl) (by kernel_rfl) (fun _ _ _ h => h) rfl hT (fun W _ => ?_) ?_
                          rotate_left
                          · (go_simp; try with_reducible rfl)
                          try simp only [Act.put, List.setIfInBounds_toArray, List.set_cons_zero, List.set_cons_succ]
                          refine dr_take 25 (some 143) (v := ?_) rfl rfl (by kernel_rfl) (by kernel_rfl) (by kernel_rfl) (fun _ _ _ h => h) rfl hT (fun W _ => ?_) ?_
                          rotate_left
                          · (go_simp; try with_reducible rfl)
                          try simp only [Act.put, List.setIfInBounds_toArray, List.set_cons_zero, List.set_cons_succ]
                          refine dr_take 26 (some 144) (v := ?_) rfl rfl (by kernel_rfl) (by kernel_rfl) (by kernel_rfl) (fun _ _ _ h => h) rfl hT (fun W _ => ?_) ?_
                          rotate_left
                          · (go_simp; try with_reducible rfl)
                          try simp only [Act.put, List.setIfInBounds_toArray, List.set_cons_zero, List.set_cons_succ]
                          refine dr_done (by kernel_rfl) ?_
                          go_wp2_with fail
                          go_roundw
                          case rel => exact ⟨k + 1, by omega, by go_num, own_keep hoy (Ch.refl [] wB).drew (by simp), hchy.drew⟩
                          case measure => simp [intOf]; omega
                        · obtain rfl : k = 64 := by omega
                          clear hlk hk
                          have hdE := hd2.nil hchy
                          have hcE := hc2.trans hchy (by simp)
                          go_wp2_with fail
                          go_roundw
                          case rel => exact ⟨i + 1, by omega, by go_num, hdE, hcE⟩
                          case measure => simp [intOf]; omega
                · have t8 : decide ((i : Int) < (k2 : Int)) = false := by simpa using hib
                  have hcb0 : True := trivial
                  have hN : newsOf lb keep torn q i = 0 := by simp [newsOf, show ¬ i < lb.length from by rw [HLB.out]; exact hib]
                  have hL : dz.read i = List.replicate (0) (lb.getD i 0) ++ List.replicate (64 - (0)) (oldOf la i) := by have h9 := Hz2.out i hlt; rw [hN] at h9; exact h9
                  have hll : (dz.read i).length = 64 := by rw [hL]; simp
                  have Ha := Hz1.out i hlt
                  generalize hol : oldOf la i = ol at *
                  generalize hbi : lb.getD i 0 = bi at *
                  go_wp2_with fail
                  refine (read_any b g m [] dz i wA hd Ha).mono ?_
                  rintro e w2 ⟨v2, rfl, ho2, hcr⟩
                  obtain ⟨yb, yc, rfl, hyb, hyl, hrow2⟩ := ho2.get (by rw [hll]; omega)
                  rw [hll] at hrow2
                  rw [hll]
                  have hd2 := hd.nil hcr
                  have hc2 := hch.trans hcr (by simp)
                  have HN := Lib.hid hN
                  have HL := Lib.hid hL
                  have HLL := Lib.hid hll
                  clear ho2 hN hL hll Ha
                  generalize hLe : dz.read i = L at *
                  have hL := HL.out
                  clear HL
                  have HL := Lib.hid hL
                  clear hL
                  go_wp2_with fail
                  clear hcb0
                  go_loopw [19] (fun j wr => ∃ k : Nat, k ≤ 64 ∧ j = .int .i64 k ∧ wr.ownsRow wA.heap.size 5 1 (.slice (some ⟨yb, 0, none⟩) 64 yc) 64 (bvs L) ∧ Ch [] w2 wr) (fun j _ => 64 - (intOf j).toNat)
                  case atStart => exact ⟨0, by omega, rfl, hrow2, Ch.refl _ _⟩
                  case round =>
                    clear hrow2
                    obtain ⟨k, hk, rfl, hoy, hchy⟩ := hrel
                    obtain ⟨wB, hwB⟩ : ∃ W, W = wr := ⟨_, rfl⟩
                    subst hwB
                    by_cases hlk : k < 64
                    · have hk64 : (k : Int) < 64 := by omega
                      have hk00 : (0 : Int) ≤ (k : Int) := by omega
                      have t1 : decide ((k : Int) < 0) = false := by simp
                      have t2 : decide ((k : Int) ≥ 0) = true := by simp
                      have t3 : decide ((0 : Int) ≤ (k : Int)) = true := by simp
                      have hcy := row_byte hoy k _ (sec_old HL.out k (by omega) hlk)
                      go_wp2_with fail
                      refine dr_begin (by kernel_rfl) ?_
                      refine dr_more (fun W => W.cell? ⟨yb, k, none⟩ = some (.int .u8 (ol.toNat : Int)) ∧ True) ?_
                      have hT : True ∧ (wB.drew.cell? ⟨yb, k, none⟩ = some (.int .u8 (ol.toNat : Int)) ∧ True) := ⟨trivial, hcy, trivial⟩
                      refine dr_take 0 (some 118) (v := ?_) rfl rfl (by kernel_rfl) (by kernel_rfl) (by kernel_rfl) (fun _ _ _ h => h) rfl hT (fun W _ => ?_) ?_
                      rotate_left
                      · (go_simp; try with_reducible rfl)
                      try simp only [Act.put, List.setIfInBounds_toArray, List.set_cons_zero, List.set_cons_succ]
                      refine dr_take 1 (some 119) (v := ?_) rfl rfl (by kernel_rfl) (by kernel_rfl) (by kernel_rfl) (fun _ _ _ h => h) rfl hT (fun W _ => ?_) ?_
                      rotate_left
                      · (go_simp; try with_reducible rfl)
                      try simp only [Act.put, List.setIfInBounds_toArray, List.set_cons_zero, List.set_cons_succ]
                      refine dr_take 2 (some 120) (v := ?_) rfl rfl (by kernel_rfl) (by kernel_rfl) (by kernel_rfl) (fun _ _ _ h => h) rfl hT (fun W _ => ?_) ?_
                      rotate_left
                      · (go_simp; try with_reducible rfl)
                      try simp only [Act.put, List.setIfInBounds_toArray, List.set_cons_zero, List.set_cons_succ]
                      refine dr_take 3 (some 121) (v := ?_) rfl rfl (by kernel_rfl) (by kernel_rfl) (by kernel_rfl) (fun _ _ _ h => h) rfl hT (fun W _ => ?_) ?_
                      rotate_left
                      · (go_simp; try with_reducible rfl)
                      try simp only [Act.put, List.setIfInBounds_toArray, List.set_cons_zero, List.set_cons_succ]
                      refine dr_skip 4 (some 122) rfl rfl (by kernel_rfl) (by kernel_rfl) (by kernel_rfl) (fun _ _ _ h => h) rfl hT ?_
                      try simp only [Act.put, List.setIfInBounds_toArray, List.set_cons_zero, List.set_cons_succ]
                      refine dr_skip 5 (some 123) rfl rfl (by kernel_rfl) (by kernel_rfl) (by kernel_rfl) (fun _ _ _ h => h) rfl hT ?_
                      try simp only [Act.put, List.setIfInBounds_toArray, List.set_cons_zero, List.set_cons_succ]
                      refine dr_skip 6 (some 124) rfl rfl (by kernel_rfl) (by kernel_rfl) (by kernel_rfl) (fun _ _ _ h => h) rfl hT ?_
                      try simp only [Act.put, List.setIfInBounds_toArray, List.set_cons_zero, List.set_cons_succ]
                      refine dr_skip 7 (some 125) rfl rfl (by kernel_rfl) (by kernel_rfl) (by kernel_rfl) (fun _ _ _ h => h) rfl hT ?_
                      try simp only [Act.put, List.setIfInBounds_toArray, List.set_cons_zero, List.set_cons_succ]
                      refine dr_skip 8 (some 126) rfl rfl (by kernel_rfl) (by kernel_rfl) (by kernel_rfl) (fun _ _ _ h => h) rfl hT ?_
                      try simp only [Act.put, List.setIfInBounds_toArray, List.set_cons_zero, List.set_cons_succ]
                      refine dr_skip 9 (some 127) rfl rfl (by kernel_rfl) (by kernel_rfl) (by kernel_rfl) (fun _ _ _ h => h) rfl hT ?_
                      try simp only [Act.put, List.setIfInBounds_toArray, List.set_cons_zero, List.set_cons_succ]
                      refine dr_skip 10 (some 128) rfl rfl (by kernel_rfl) (by kernel_rfl) (by kernel_rfl) (fun _ _ _ h => h) rfl hT ?_
                      try simp only [Act.put, List.setIfInBounds_toArray, List.set_cons_zero, List.set_cons_succ]
                      refine dr_skip 11 (some 129) rfl rfl (by kernel_rfl) (by kernel_rfl) (by kernel_rfl) (fun _ _ _ h => h) rfl hT ?_
                      try simp only [Act.put, List.setIfInBounds_toArray, List.set_cons_zero, List.set_cons_succ]
                      refine dr_skip 12 (some 130) rfl rfl (by kernel_rfl) (by kernel_rfl) (by kernel_rfl) (fun _ _ _ h => h) rfl hT ?_
                      try simp only [Act.put, List.setIfInBounds_toArray, List.set_cons_zero, List.set_cons_succ]
                      refine dr_take 13 (some 131) (v := ?_) rfl rfl (by kernel_rfl) (by kernel_rfl) (by kernel_rfl) (fun _ _ _ h => h) rfl hT (fun W _ => ?_) ?_
                      rotate_left
                      · (go_simp; try with_reducible rfl)
                      try simp only [Act.put, List.setIfInBounds_toArray, List.set_cons_zero, List.set_cons_succ]
                      refine dr_take 14 (some 132) (v := ?_) rfl rfl (by kernel_rfl) (by kernel_rfl) (by kernel_rfl) (fun _ _ _ h => h) rfl hT (fun W _ => ?_) ?_
                      rotate_left
                      · (go_simp; try with_reducible rfl)
                      try simp only [Act.put, List.setIfInBounds_toArray, List.set_cons_zero, List.set_cons_succ]
                      refine dr_take 15 (some 133) (v := ?_) rfl rfl (by kernel_rfl) (by kernel_rfl) (by kernel_rfl) (fun _ _ _ h => h) rfl hT (fun W _ => ?_) ?_
                      rotate_left
                      · (go_simp; try with_reducible rfl)
                      try simp only [Act.put, List.setIfInBounds_toArray, List.set_cons_zero, List.set_cons_succ]
                      refine dr_take 16 (some 134) (v := ?_) rfl rfl (by kernel_rfl) (by kernel_rfl) (by kernel_rfl) (fun _ _ _ h => h) rfl hT (fun W _ => ?_) ?_
                      rotate_left
                      · (go_simp; try with_reducible rfl)
                      try simp only [Act.put, List.setIfInBounds_toArray, List.set_cons_zero, List.set_cons_succ]
                      refine dr_take 17 (some 135) (v := ?_) rfl rfl (by kernel_rfl) (by kernel_rfl) (by kernel_rfl) (fun _ _ _ h => h) rfl hT (fun W _ => ?_) ?_
                      rotate_left
                      · (go_simp; try with_reducible rfl)
                      try simp only [Act.put, List.setIfInBounds_toArray, List.set_cons_zero, List.set_cons_succ]
                      refine dr_take 18 (some 136) (v := ?_) rfl rfl (by kernel_rfl) (by kernel_rfl) (by kernel_rfl) (fun _ _ _ h => h) rfl hT (fun W _ => ?_) ?_
                      rotate_left
                      · (go_simp; try with_reducible rfl)
                      try simp only [Act.put, List.setIfInBounds_toArray, List.set_cons_zero, List.set_cons_succ]
                      refine dr_take 19 (some 137) (v := ?_) rfl rfl (by kernel_rfl) (by kernel_rfl) (by kernel_rfl) (fun _ _ _ h => h) rfl hT (fun W _ => ?_) ?_
                      rotate_left
                      · (go_simp; try with_reducible rfl)
                      try simp only [Act.put, List.setIfInBounds_toArray, List.set_cons_zero, List.set_cons_succ]
                      refine dr_take 20 (some 138) (v := ?_) rfl rfl (by kernel_rfl) (by kernel_rfl) (by kernel_rfl) (fun _ _ _ h => h) rfl hT (fun W _ => ?_) ?_
                      rotate_left
                      · (go_simp; try with_reducible rfl)
                      try simp only [Act.put, List.setIfInBounds_toArray, List.set_cons_zero, List.set_cons_succ]
                      refine dr_take 21 (some 139) (v := ?_) rfl rfl (by kernel_rfl) (by kernel_rfl) (by kernel_rfl) (fun _ _ _ h => h) rfl hT (fun W _ => ?_) ?_
                      rotate_left
                      · (go_simp; try with_reducible rfl)
                      try simp only [Act.put, List.setIfInBounds_toArray, List.set_cons_zero, List.set_cons_succ]
                      refine dr_take 22 (some 140) (v := ?_) rfl rfl (by kernel_rfl) (by kernel_rfl) (by kernel_rfl) (fun _ _ _ h => h) rfl hT (fun W hW => ?_) ?_
                      rotate_left
                      · (have h1 := hW.2.1; go_simp; try with_reducible rfl)
                      try simp only [Act.put, List.setIfInBounds_toArray, List.set_cons_zero, List.set_cons_succ]
                      refine dr_take 23 (some 141) (v := ?_) rfl rfl (by kernel_rfl) (by kernel_rfl) (by kernel_rfl) (fun _ _ _ h => h) rfl hT (fun W _ => ?_) ?_
                      rotate_left
                      · (go_simp; try with_reducible rfl)
                      try simp only [Act.put, List.setIfInBounds_toArray, List.set_cons_zero, List.set_cons_succ]
                      refine dr_take 24 (some 142) (v := ?_) rfl rfl (by kernel_rfl) (by kernel_rfl) (by kernel_rfl) (fun _ _ _ h => h) rfl hT (fun W _ => ?_) ?_
                      rotate_left
                      · (go_simp; try with_reducible rfl)
                      try simp only [Act.put, List.setIfInBounds_toArray, List.set_cons_zero, List.set_cons_succ]
                      refine dr_take 25 (some 143) (v := ?_) rfl rfl (by kernel_rfl) (by kernel_rfl) (by kernel_rfl) (fun _ _ _ h => h) rfl hT (fun W _ => ?_) ?_
                      rotate_left
                      · (go_simp; try with_reducible rfl)
                      try simp only [Act.put, List.setIfInBounds_toArray, List.set_cons_zero, List.set_cons_succ]
                      refine dr_take 26 (some 144) (v := ?_) rfl rfl (by kernel_rfl) (by kernel_rfl) (by kernel_rfl) (fun _ _ _ h => h) rfl hT (fun W _ => ?_) ?_
                      rotate_left
                      · (go_simp; try with_reducible rfl)
                      try simp only [Act.put, List.setIfInBounds_toArray, List.set_cons_zero, List.set_cons_succ]
                      refine dr_done (by kernel_rfl) ?_
                      go_wp2_with fail
                      go_roundw
                      case rel => exact ⟨k + 1, by omega, by go_num, own_keep hoy (Ch.refl [] wB).drew (by simp), hchy.drew⟩
                      case measure => simp [intOf]; omega
                    · obtain rfl : k = 64 := by omega
                      clear hlk hk
                      have hdE := hd2.nil hchy
                      have hcE := hc2.trans hchy (by simp)
                      go_wp2_with fail
                      go_roundw
                      case rel => exact ⟨i + 1, by omega, by go_num, hdE, hcE⟩
                      case measure => simp [intOf]; omega
              · have t7 : decide ((i : Int) < (k : Int)) = false := by simpa using hia
                have hga : oldOf la i = 0 := by simp [oldOf, List.getD, show ¬ i < la.length from by rw [HLA.out]; exact hia]
                have HGA := Lib.hid hga
                clear hga
                by_cases hib : i < k2
                · have t8 : decide ((i : Int) < (k2 : Int)) = true := by simpa using hib
                  obtain ⟨bb, bo, eA1, hcb0⟩ := hr1.at0 i (by rw [HLB.out]; exact hib)
                  have hgb : lb[i]'(by rw [HLB.out]; exact hib) = lb.getD i 0 := by simp [List.getD, show i < lb.length from by rw [HLB.out]; exact hib]
                  rw [hgb] at hcb0
                  subst eA1
                  clear hgb
                  have hbit := keep_bit keep i hkeep
                  by_cases hit : (i : Int) = torn
                  · have t9 : ((i : Int) == torn) = true := by rw [beq_iff_eq]; exact hit
                    by_cases hbb : keep / 2 ^ i % 2 = 1
                    · have t10 : (bits BinOp.and IntKind.u64 ((keep : Int) / 2 ^ i) 1 == 1) = true := by rw [hbit, hbb]; rfl
                      clear hbit
                      have hit' := Lib.hid hit
                      clear hit
                      have hN : newsOf lb keep torn q i = q := by simp [newsOf, show i < lb.length from by rw [HLB.out]; exact hib, hit'.out]
                      have hL : dz.read i = List.replicate (q) (lb.getD i 0) ++ List.replicate (64 - (q)) (oldOf la i) := by have h9 := Hz2.out i hlt; rw [hN] at h9; exact h9
                      have hll : (dz.read i).length = 64 := by rw [hL]; simp; omega
                      have Ha := Hz1.out i hlt
                      rw [HGA.out] at hL
                      generalize hbi : lb.getD i 0 = bi at *
                      go_wp2_with fail
                      rw [HQ.out]
                      refine (read_any b g m [] dz i wA hd Ha).mono ?_
                      rintro e w2 ⟨v2, rfl, ho2, hcr⟩
                      obtain ⟨yb, yc, rfl, hyb, hyl, hrow2⟩ := ho2.get (by rw [hll]; omega)
                      rw [hll] at hrow2
                      rw [hll]
                      have hd2 := hd.nil hcr
                      have hc2 := hch.trans hcr (by simp)
                      have hcb1 := hc2.cell hcb0 (by simp)
                      have HN := Lib.hid hN
                      have HL := Lib.hid hL
                      have HLL := Lib.hid hll
                      clear ho2 hN hL hll Ha
                      generalize hLe : dz.read i = L at *
                      have hL := HL.out
                      clear HL
                      have HL := Lib.hid hL
                      clear hL
                      go_wp2_with fail
                      clear hcb0
                      go_loopw [19] (fun j wr => ∃ k : Nat, k ≤ 64 ∧ j = .int .i64 k ∧ wr.ownsRow wA.heap.size 5 1 (.slice (some ⟨yb, 0, none⟩) 64 yc) 64 (bvs L) ∧ Ch [] w2 wr) (fun j _ => 64 - (intOf j).toNat)
                      case atStart => exact ⟨0, by omega, rfl, hrow2, Ch.refl _ _⟩
                      case round =>
                        clear hrow2
                        obtain ⟨k, hk, rfl, hoy, hchy⟩ := hrel
                        obtain ⟨wB, hwB⟩ : ∃ W, W = wr := ⟨_, rfl⟩
                        subst hwB
                        by_cases hlk : k < 64
                        · have hk64 : (k : Int) < 64 := by omega
                          have hk00 : (0 : Int) ≤ (k : Int) := by omega
                          by_cases hkN : k < q
                          · have t1 : decide ((k : Int) < (q : Int)) = true := by simpa using hkN
                            have t2 : decide ((k : Int) ≥ (q : Int)) = false := by simp; omega
                            have t3 : decide (q ≤ k) = false := by simp; omega
                            have t4 : decide (k < q) = true := by simp; omega
                            have hcy := row_byte hoy k _ (sec_new HL.out k (by omega))
                            have hcb2 := hchy.cell hcb1 (by simp)
                            go_wp2_with fail
                            refine dr_begin (by kernel_rfl) ?_
                            refine dr_more (fun W => W.cell? ⟨yb, k, none⟩ = some (.int .u8 (bi.toNat : Int)) ∧ W.cell? ⟨bb, bo + i, none⟩ = some (.int .u8 (bi.toNat : Int))) ?_
                            have hT : True ∧ (wB.drew.cell? ⟨yb, k, none⟩ = some (.int .u8 (bi.toNat : Int)) ∧ wB.drew.cell? ⟨bb, bo + i, none⟩ = some (.int .u8 (bi.toNat : Int))) := ⟨trivial, hcy, hcb2⟩
                            refine dr_take 0 (some 118) (v := ?_) rfl rfl (by kernel_rfl) (by kernel_rfl) (by kernel_rfl) (fun _ _ _ h => h) rfl hT (fun W _ => ?_) ?_
                            rotate_left
                            · (go_simp; try with_reducible rfl)
                            try simp only [Act.put, List.setIfInBounds_toArray, List.set_cons_zero, List.set_cons_succ]
                            refine dr_take 1 (some 119) (v := ?_) rfl rfl (by kernel_rfl) (by kernel_rfl) (by kernel_rfl) (fun _ _ _ h => h) rfl hT (fun W _ => ?_) ?_
                            rotate_left
                            · (go_simp; try with_reducible rfl)
                            try simp only [Act.put, List.setIfInBounds_toArray, List.set_cons_zero, List.set_cons_succ]
                            refine dr_take 2 (some 120) (v := ?_) rfl rfl (by kernel_rfl) (by kernel_rfl) (by kernel_rfl) (fun _ _ _ h => h) rfl hT (fun W _ => ?_) ?_
                            rotate_left
                            · (go_simp; try with_reducible rfl)
                            try simp only [Act.put, List.setIfInBounds_toArray, List.set_cons_zero, List.set_cons_succ]
                            refine dr_take 3 (some 121) (v := ?_) rfl rfl (by kernel_rfl) (by kernel_rfl) (by kernel_rfl) (fun _ _ _ h => h) rfl hT (fun W _ => ?_) ?_
                            rotate_left
                            · (go_simp; try with_reducible rfl)
                            try simp only [Act.put, List.setIfInBounds_toArray, List.set_cons_zero, List.set_cons_succ]
                            refine dr_take 4 (some 122) (v := ?_) rfl rfl (by kernel_rfl) (by kernel_rfl) (by kernel_rfl) (fun _ _ _ h => h) rfl hT (fun W _ => ?_) ?_
                            rotate_left
                            · (go_simp; try with_reducible rfl)
                            try simp only [Act.put, List.setIfInBounds_toArray, List.set_cons_zero, List.set_cons_succ]
                            refine dr_take 5 (some 123) (v := ?_) rfl rfl (by kernel_rfl) (by kernel_rfl) (by kernel_rfl) (fun _ _ _ h => h) rfl hT (fun W _ => ?_) ?_
                            rotate_left
                            · (go_simp; try with_reducible rfl)
                            try simp only [Act.put, List.setIfInBounds_toArray, List.set_cons_zero, List.set_cons_succ]
                            refine dr_take 6 (some 124) (v := ?_) rfl rfl (by kernel_rfl) (by kernel_rfl) (by kernel_rfl) (fun _ _ _ h => h) rfl hT (fun W _ => ?_) ?_
                            rotate_left
                            · (go_simp; try with_reducible rfl)
                            try simp only [Act.put, List.setIfInBounds_toArray, List.set_cons_zero, List.set_cons_succ]
                            refine dr_take 7 (some 125) (v := ?_) rfl rfl (by kernel_rfl) (by kernel_rfl) (by kernel_rfl) (fun _ _ _ h => h) rfl hT (fun W hW => ?_) ?_
                            rotate_left
                            · (have h1 := hW.2.1; go_simp; try with_reducible rfl)
                            try simp only [Act.put, List.setIfInBounds_toArray, List.set_cons_zero, List.set_cons_succ]
                            refine dr_take 8 (some 126) (v := ?_) rfl rfl (by kernel_rfl) (by kernel_rfl) (by kernel_rfl) (fun _ _ _ h => h) rfl hT (fun W _ => ?_) ?_
                            rotate_left
                            · (go_simp; try with_reducible rfl)
                            try simp only [Act.put, List.setIfInBounds_toArray, List.set_cons_zero, List.set_cons_succ]
                            refine dr_take 9 (some 127) (v := ?_) rfl rfl (by kernel_rfl) (by kernel_rfl) (by kernel_rfl) (fun _ _ _ h => h) rfl hT (fun W _ => ?_) ?_
                            rotate_left
                            · (go_simp; try with_reducible rfl)
                            try simp only [Act.put, List.setIfInBounds_toArray, List.set_cons_zero, List.set_cons_succ]
                            refine dr_take 10 (some 128) (v := ?_) rfl rfl (by kernel_rfl) (by kernel_rfl) (by kernel_rfl) (fun _ _ _ h => h) rfl hT (fun W _ => ?_) ?_
                            rotate_left
                            · (go_simp; try with_reducible rfl)
                            try simp only [Act.put, List.setIfInBounds_toArray, List.set_cons_zero, List.set_cons_succ]
                            refine dr_take 11 (some 129) (v := ?_) rfl rfl (by kernel_rfl) (by kernel_rfl) (by kernel_rfl) (fun _ _ _ h => h) rfl hT (fun W hW => ?_) ?_
                            rotate_left
                            · (have h1 := hW.2.2; go_simp; try with_reducible rfl)
                            try simp only [Act.put, List.setIfInBounds_toArray, List.set_cons_zero, List.set_cons_succ]
                            refine dr_take 12 (some 130) (v := ?_) rfl rfl (by kernel_rfl) (by kernel_rfl) (by kernel_rfl) (fun _ _ _ h => h) rfl hT (fun W _ => ?_) ?_
                            rotate_left
                            · (go_simp; try with_reducible rfl)
                            try simp only [Act.put, List.setIfInBounds_toArray, List.set_cons_zero, List.set_cons_succ]
                            refine dr_take 13 (some 131) (v := ?_) rfl rfl (by kernel_rfl) (by kernel_rfl) (by kernel_rfl) (fun _ _ _ h => h) rfl hT (fun W _ => ?_) ?_
                            rotate_left
                            · (go_simp; try with_reducible rfl)
                            try simp only [Act.put, List.setIfInBounds_toArray, List.set_cons_zero, List.set_cons_succ]
                            refine dr_take 14 (some 132) (v := ?_) rfl rfl (by kernel_rfl) (by kernel_rfl) (by kernel_rfl) (fun _ _ _ h => h) rfl hT (fun W _ => ?_) ?_
                            rotate_left
                            · (go_simp; try with_reducible rfl)
                            try simp only [Act.put, List.setIfInBounds_toArray, List.set_cons_zero, List.set_cons_succ]
                            refine dr_take 15 (some 133) (v := ?_) rfl rfl (by kernel_rfl) (by kernel_rfl) (by kernel_rfl) (fun _ _ _ h => h) rfl hT (fun W _ => ?_) ?_
                            rotate_left
                            · (go_simp; try with_reducible rfl)
                            try simp only [Act.put, List.setIfInBounds_toArray, List.set_cons_zero, List.set_cons_succ]
                            refine dr_take 16 (some 134) (v := ?_) rfl rfl (by kernel_rfl) (by kernel_rfl) (by kernel_rfl) (fun _ _ _ h => h) rfl hT (fun W _ => ?_) ?_
                            rotate_left
                            · (go_simp; try with_reducible rfl)
                            try simp only [Act.put, List.setIfInBounds_toArray, List.set_cons_zero, List.set_cons_succ]
                            refine dr_take 17 (some 135) (v := ?_) rfl rfl (by kernel_rfl) (by kernel_rfl) (by kernel_rfl) (fun _ _ _ h => h) rfl hT (fun W _ => ?_) ?_
                            rotate_left
                            · (go_simp; try with_reducible rfl)
                            try simp only [Act.put, List.setIfInBounds_toArray, List.set_cons_zero, List.set_cons_succ]
                            refine dr_take 18 (some 136) (v := ?_) rfl rfl (by kernel_rfl) (by kernel_rfl) (by kernel_rfl) (fun _ _ _ h => h) rfl hT (fun W _ => ?_) ?_
                            rotate_left
                            · (go_simp; try with_reducible rfl)
                            try simp only [Act.put, List.setIfInBounds_toArray, List.set_cons_zero, List.set_cons_succ]
                            refine dr_skip 19 (some 137) rfl rfl (by kernel_rfl) (by kernel_rfl) (by kernel_rfl) (fun _ _ _ h => h) rfl hT ?_
                            try simp only [Act.put, List.setIfInBounds_toArray, List.set_cons_zero, List.set_cons_succ]
                            refine dr_skip 20 (some 138) rfl rfl (by kernel_rfl) (by kernel_rfl) (by kernel_rfl) (fun _ _ _ h => h) rfl hT ?_
                            try simp only [Act.put, List.setIfInBounds_toArray, List.set_cons_zero, List.set_cons_succ]
                            refine dr_skip 21 (some 139) rfl rfl (by kernel_rfl) (by kernel_rfl) (by kernel_rfl) (fun _ _ _ h => h) rfl hT ?_
                            try simp only [Act.put, List.setIfInBounds_toArray, List.set_cons_zero, List.set_cons_succ]
                            refine dr_skip 22 (some 140) rfl rfl (by kernel_rfl) (by kernel_rfl) (by kernel_rfl) (fun _ _ _ h => h) rfl hT ?_
                            try simp only [Act.put, List.setIfInBounds_toArray, List.set_cons_zero, List.set_cons_succ]
                            refine dr_skip 23 (some 141) rfl rfl (by kernel_rfl) (by kernel_rfl) (by kernel_rfl) (fun _ _ _ h => h) rfl hT ?_
                            try simp only [Act.put, List.setIfInBounds_toArray, List.set_cons_zero, List.set_cons_succ]
                            refine dr_skip 24 (some 142) rfl rfl (by kernel_rfl) (by kernel_rfl) (by kernel_rfl) (fun _ _ _ h => h) rfl hT ?_
                            try simp only [Act.put, List.setIfInBounds_toArray, List.set_cons_zero, List.set_cons_succ]
                            refine dr_take 25 (some 143) (v := ?_) rfl rfl (by kernel_rfl) (by kernel_rfl) (by kernel_rfl) (fun _ _ _ h => h) rfl hT (fun W _ => ?_) ?_
                            rotate_left
                            · (go_simp; try with_reducible rfl)
                            try simp only [Act.put, List.setIfInBounds_toArray, List.set_cons_zero, List.set_cons_succ]
                            refine dr_take 26 (some 144) (v := ?_) rfl rfl (by kernel_rfl) (by kernel_rfl) (by kernel_rfl) (fun _ _ _ h => h) rfl hT (fun W _ => ?_) ?_
                            rotate_left
                            · (go_simp; try with_reducible rfl)
                            try simp only [Act.put, List.setIfInBounds_toArray, List.set_cons_zero, List.set_cons_succ]
                            refine dr_done (by kernel_rfl) ?_
                            go_wp2_with fail
                            go_roundw
                            case rel => exact ⟨k + 1, by omega, by go_num, own_keep hoy (Ch.refl [] wB).drew (by simp), hchy.drew⟩
                            case measure => simp [intOf]; omega
                          · have t1 : decide ((k : Int) < (q : Int)) = false := by simpa using hkN
                            have t2 : decide ((k : Int) ≥ (q : Int)) = true := by simp; omega
                            have t3 : decide (q ≤ k) = true := by simp; omega
                            have t4 : decide (k < q) = false := by simp; omega
                            have hcy := row_byte hoy k 0 (sec_old HL.out k (by omega) hlk)
                            rw [show ((0 : Nat) : Int) = 0 from rfl] at hcy
                            go_wp2_with fail
                            refine dr_begin (by kernel_rfl) ?_
                            refine dr_more (fun W => W.cell? ⟨yb, k, none⟩ = some (.int .u8 0) ∧ True) ?_
                            have hT : True ∧ (wB.drew.cell? ⟨yb, k, none⟩ = some (.int .u8 0) ∧ True) := ⟨trivial, hcy, trivial⟩
                            refine dr_take 0 (some 118) (v := ?_) rfl rfl (by kernel_rfl) (by kernel_rfl) (by kernel_rfl) (fun _ _ _ h => h) rfl hT (fun W _ => ?_) ?_
                            rotate_left
                            · (go_simp; try with_reducible rfl)
                            try simp only [Act.put, List.setIfInBounds_toArray, List.set_cons_zero, List.set_cons_succ]
                            refine dr_take 1 (some 119) (v := ?_) rfl rfl (by kernel_rfl) (by kernel_rfl) (by kernel_rfl) (fun _ _ _ h => h) rfl hT (fun W _ => ?_) ?_
                            rotate_left
                            · (go_simp; try with_reducible rfl)
                            try simp only [Act.put, List.setIfInBounds_toArray, List.set_cons_zero, List.set_cons_succ]
                            refine dr_take 2 (some 120) (v := ?_) rfl rfl (by kernel_rfl) (by kernel_rfl) (by kernel_rfl) (fun _ _ _ h => h) rfl hT (fun W _ => ?_) ?_
                            rotate_left
                            · (go_simp; try with_reducible rfl)
                            try simp only [Act.put, List.setIfInBounds_toArray, List.set_cons_zero, List.set_cons_succ]
                            refine dr_take 3 (some 121) (v := ?_) rfl rfl (by kernel_rfl) (by kernel_rfl) (by kernel_rfl) (fun _ _ _ h => h) rfl hT (fun W _ => ?_) ?_
                            rotate_left
                            · (go_simp; try with_reducible rfl)
                            try simp only [Act.put, List.setIfInBounds_toArray, List.set_cons_zero, List.set_cons_succ]
                            refine dr_skip 4 (some 122) rfl rfl (by kernel_rfl) (by kernel_rfl) (by kernel_rfl) (fun _ _ _ h => h) rfl hT ?_
                            try simp only [Act.put, List.setIfInBounds_toArray, List.set_cons_zero, List.set_cons_succ]
                            refine dr_skip 5 (some 123) rfl rfl (by kernel_rfl) (by kernel_rfl) (by kernel_rfl) (fun _ _ _ h => h) rfl hT ?_
                            try simp only [Act.put, List.setIfInBounds_toArray, List.set_cons_zero, List.set_cons_succ]
                            refine dr_skip 6 (some 124) rfl rfl (by kernel_rfl) (by kernel_rfl) (by kernel_rfl) (fun _ _ _ h => h) rfl hT ?_
                            try simp only [Act.put, List.setIfInBounds_toArray, List.set_cons_zero, List.set_cons_succ]
                            refine dr_skip 7 (some 125) rfl rfl (by kernel_rfl) (by kernel_rfl) (by kernel_rfl) (fun _ _ _ h => h) rfl hT ?_
                            try simp only [Act.put, List.setIfInBounds_toArray, List.set_cons_zero, List.set_cons_succ]
                            refine dr_skip 8 (some 126) rfl rfl (by kernel_rfl) (by kernel_rfl) (by kernel_rfl) (fun _ _ _ h => h) rfl hT ?_
                            try simp only [Act.put, List.setIfInBounds_toArray, List.set_cons_zero, List.set_cons_succ]
                            refine dr_skip 9 (some 127) rfl rfl (by kernel_rfl) (by kernel_rfl) (by kernel_rfl) (fun _ _ _ h => h) rfl hT ?_
                            try simp only [Act.put, List.setIfInBounds_toArray, List.set_cons_zero, List.set_cons_succ]
                            refine dr_skip 10 (some 128) rfl rfl (by kernel_rfl) (by kernel_rfl) (by kernel_rfl) (fun _ _ _ h => h) rfl hT ?_
                            try simp only [Act.put, List.setIfInBounds_toArray, List.set_cons_zero, List.set_cons_succ]
                            refine dr_skip 11 (some 129) rfl rfl (by kernel_rfl) (by kernel_rfl) (by kernel_rfl) (fun _ _ _ h => h) rfl hT ?_
                            try simp only [Act.put, List.setIfInBounds_toArray, List.set_cons_zero, List.set_cons_succ]
                            refine dr_skip 12 (some 130) rfl rfl (by kernel_rfl) (by kernel_rfl) (by kernel_rfl) (fun _ _ _ h => h) rfl hT ?_
                            try simp only [Act.put, List.setIfInBounds_toArray, List.set_cons_zero, List.set_cons_succ]
                            refine dr_take 13 (some 131) (v := ?_) rfl rfl (by kernel_rfl) (by kernel_rfl) (by kernel_rfl) (fun _ _ _ h => h) rfl hT (fun W _ => ?_) ?_
                            rotate_left
                            · (go_simp; try with_reducible rfl)
                            try simp only [Act.put, List.setIfInBounds_toArray, List.set_cons_zero, List.set_cons_succ]
                            refine dr_take 14 (some 132) (v := ?_) rfl rfl (by kernel_rfl) (by kernel_rfl) (by kernel_rfl) (fun _ _ _ h => h) rfl hT (fun W _ => ?_) ?_
                            rotate_left
                            · (go_simp; try with_reducible rfl)
                            try simp only [Act.put, List.setIfInBounds_toArray, List.set_cons_zero, List.set_cons_succ]
                            refine dr_take 15 (some 133) (v := ?_) rfl rfl (by kernel_rfl) (by kernel_rfl) (by kernel_rfl) (fun _ _ _ h => h) rfl hT (fun W _ => ?_) ?_
                            rotate_left
                            · (go_simp; try with_reducible rfl)
                            try simp only [Act.put, List.setIfInBounds_toArray, List.set_cons_zero, List.set_cons_succ]
                            refine dr_take 16 (some 134) (v := ?_) rfl rfl (by kernel_rfl) (by kernel_rfl) (by kernel_rfl) (fun _ _ _ h => h) rfl hT (fun W _ => ?_) ?_
                            rotate_left
                            · (go_simp; try with_reducible rfl)
                            try simp only [Act.put, List.setIfInBounds_toArray, List.set_cons_zero, List.set_cons_succ]
                            refine dr_take 17 (some 135) (v := ?_) rfl rfl (by kernel_rfl) (by kernel_rfl) (by kernel_rfl) (fun _ _ _ h => h) rfl hT (fun W _ => ?_) ?_
                            rotate_left
                            · (go_simp; try with_reducible rfl)
                            try simp only [Act.put, List.setIfInBounds_toArray, List.set_cons_zero, List.set_cons_succ]
                            refine dr_take 18 (some 136) (v := ?_) rfl rfl (by kernel_rfl) (by kernel_rfl) (by kernel_rfl) (fun _ _ _ h => h) rfl hT (fun W _ => ?_) ?_
                            rotate_left
                            · (go_simp; try with_reducible rfl)
                            try simp only [Act.put, List.setIfInBounds_toArray, List.set_cons_zero, List.set_cons_succ]
                            refine dr_take 19 (some 137) (v := ?_) rfl rfl (by kernel_rfl) (by kernel_rfl) (by kernel_rfl) (fun _ _ _ h => h) rfl hT (fun W _ => ?_) ?_
                            rotate_left
                            · (go_simp; try with_reducible rfl)
                            try simp only [Act.put, List.setIfInBounds_toArray, List.set_cons_zero, List.set_cons_succ]
                            refine dr_take 20 (some 138) (v := ?_) rfl rfl (by kernel_rfl) (by kernel_rfl) (by kernel_rfl) (fun _ _ _ h => h) rfl hT (fun W _ => ?_) ?_
                            rotate_left
                            · (go_simp; try with_reducible rfl)
                            try simp only [Act.put, List.setIfInBounds_toArray, List.set_cons_zero, List.set_cons_succ]
                            refine dr_take 21 (some 139) (v := ?_) rfl rfl (by kernel_rfl) (by kernel_rfl) (by kernel_rfl) (fun _ _ _ h => h) rfl hT (fun W _ => ?_) ?_
                            rotate_left
                            · (go_simp; try with_reducible rfl)
                            try simp only [Act.put, List.setIfInBounds_toArray, List.set_cons_zero, List.set_cons_succ]
                            refine dr_take 22 (some 140) (v := ?_) rfl rfl (by kernel_rfl) (by kernel_rfl) (by kernel_rfl) (fun _ _ _ h => h) rfl hT (fun W hW => ?_) ?_
                            rotate_left
                            · (have h1 := hW.2.1; go_simp; try with_reducible rfl)
                            try simp only [Act.put, List.setIfInBounds_toArray, List.set_cons_zero, List.set_cons_succ]
                            refine dr_take 23 (some 141) (v := ?_) rfl rfl (by kernel_rfl) (by kernel_rfl) (by kernel_rfl) (fun _ _ _ h => h) rfl hT (fun W _ => ?_) ?_
                            rotate_left
                            · (go_simp; try with_reducible rfl)
                            try simp only [Act.put, List.setIfInBounds_toArray, List.set_cons_zero, List.set_cons_succ]
                            refine dr_take 24 (some 142) (v := ?_) rfl rfl (by kernel_rfl) (by kernel_rfl) (by kernel_rfl) (fun _ _ _ h => h) rfl hT (fun W _ => ?_) ?_
                            rotate_left
                            · (go_simp; try with_reducible rfl)
                            try simp only [Act.put, List.setIfInBounds_toArray, List.set_cons_zero, List.set_cons_succ]
                            refine dr_take 25 (some 143) (v := ?_) rfl rfl (by kernel_rfl) (by kernel_rfl) (by kernel_rfl) (fun _ _ _ h => h) rfl hT (fun W _ => ?_) ?_
                            rotate_left
                            · (go_simp; try with_reducible rfl)
                            try simp only [Act.put, List.setIfInBounds_toArray, List.set_cons_zero, List.set_cons_succ]
                            refine dr_take 26 (some 144) (v := ?_) rfl rfl (by kernel_rfl) (by kernel_rfl) (by kernel_rfl) (fun _ _ _ h => h) rfl hT (fun W _ => ?_) ?_
                            rotate_left
                            · (go_simp; try with_reducible rfl)
                            try simp only [Act.put, List.setIfInBounds_toArray, List.set_cons_zero, List.set_cons_succ]
                            refine dr_done (by kernel_rfl) ?_
                            go_wp2_with fail
                            go_roundw
                            case rel => exact ⟨k + 1, by omega, by go_num, own_keep hoy (Ch.refl [] wB).drew (by simp), hchy.drew⟩
                            case measure => simp [intOf]; omega
                        · obtain rfl : k = 64 := by omega
                          clear hlk hk
                          have hdE := hd2.nil hchy
                          have hcE := hc2.trans hchy (by simp)
                          go_wp2_with fail
                          go_roundw
                          case rel => exact ⟨i + 1, by omega, by go_num, hdE, hcE⟩
                          case measure => simp [intOf]; omega
                    · have t10 : (bits BinOp.and IntKind.u64 ((keep : Int) / 2 ^ i) 1 == 1) = false := by rw [hbit, beq_eq_false_iff_ne]; omega
                      clear hbit
                      have hit' := Lib.hid hit
                      clear hit
                      have hN : newsOf lb keep torn q i = q := by simp [newsOf, show i < lb.length from by rw [HLB.out]; exact hib, hit'.out]
                      have hL : dz.read i = List.replicate (q) (lb.getD i 0) ++ List.replicate (64 - (q)) (oldOf la i) := by have h9 := Hz2.out i hlt; rw [hN] at h9; exact h9
                      have hll : (dz.read i).length = 64 := by rw [hL]; simp; omega
                      have Ha := Hz1.out i hlt
                      rw [HGA.out] at hL
                      generalize hbi : lb.getD i 0 = bi at *
                      go_wp2_with fail
                      rw [HQ.out]
                      refine (read_any b g m [] dz i wA hd Ha).mono ?_
                      rintro e w2 ⟨v2, rfl, ho2, hcr⟩
                      obtain ⟨yb, yc, rfl, hyb, hyl, hrow2⟩ := ho2.get (by rw [hll]; omega)
                      rw [hll] at hrow2
                      rw [hll]
                      have hd2 := hd.nil hcr
                      have hc2 := hch.trans hcr (by simp)
                      have hcb1 := hc2.cell hcb0 (by simp)
                      have HN := Lib.hid hN
                      have HL := Lib.hid hL
                      have HLL := Lib.hid hll
                      clear ho2 hN hL hll Ha
                      generalize hLe : dz.read i = L at *
                      have hL := HL.out
                      clear HL
                      have HL := Lib.hid hL
                      clear hL
                      go_wp2_with fail
                      clear hcb0
                      go_loopw [19] (fun j wr => ∃ k : Nat, k ≤ 64 ∧ j = .int .i64 k ∧ wr.ownsRow wA.heap.size 5 1 (.slice (some ⟨yb, 0, none⟩) 64 yc) 64 (bvs L) ∧ Ch [] w2 wr) (fun j _ => 64 - (intOf j).toNat)
                      case atStart => exact ⟨0, by omega, rfl, hrow2, Ch.refl _ _⟩
                      case round =>
                        clear hrow2
                        obtain ⟨k, hk, rfl, hoy, hchy⟩ := hrel
                        obtain ⟨wB, hwB⟩ : ∃ W, W = wr := ⟨_, rfl⟩
                        subst hwB
                        by_cases hlk : k < 64
                        · have hk64 : (k : Int) < 64 := by omega
                          have hk00 : (0 : Int) ≤ (k : Int) := by omega
                          by_cases hkN : k < q
                          · have t1 : decide ((k : Int) < (q : Int)) = true := by simpa using hkN
                            have t2 : decide ((k : Int) ≥ (q : Int)) = false := by simp; omega
                            have t3 : decide (q ≤ k) = false := by simp; omega
                            have t4 : decide (k < q) = true := by simp; omega
                            have hcy := row_byte hoy k _ (sec_new HL.out k (by omega))
                            have hcb2 := hchy.cell hcb1 (by simp)
                            go_wp2_with fail
                            refine dr_begin (by kernel_rfl) ?_
                            refine dr_more (fun W => W.cell? ⟨yb, k, none⟩ = some (.int .u8 (bi.toNat : Int)) ∧ W.cell? ⟨bb, bo + i, none⟩ = some (.int .u8 (bi.toNat : Int))) ?_
                            have hT : True ∧ (wB.drew.cell? ⟨yb, k, none⟩ = some (.int .u8 (bi.toNat : Int)) ∧ wB.drew.cell? ⟨bb, bo + i, none⟩ = some (.int .u8 (bi.toNat : Int))) := ⟨trivial, hcy, hcb2⟩
                            refine dr_take 0 (some 118) (v := ?_) rfl rfl (by kernel_rfl) (by kernel_rfl) (by kernel_rfl) (fun _ _ _ h => h) rfl hT (fun W _ => ?_) ?_
                            rotate_left
                            · (go_simp; try with_reducible rfl)
                            try simp only [Act.put, List.setIfInBounds_toArray, List.set_cons_zero, List.set_cons_succ]
                            refine dr_take 1 (some 119) (v := ?_) rfl rfl (by kernel_rfl) (by kernel_rfl) (by kernel_rfl) (fun _ _ _ h => h) rfl hT (fun W _ => ?_) ?_
                            rotate_left
                            · (go_simp; try with_reducible rfl)
                            try simp only [Act.put, List.setIfInBounds_toArray, List.set_cons_zero, List.set_cons_succ]
                            refine dr_take 2 (some 120) (v := ?_) rfl rfl (by kernel_rfl) (by kernel_rfl) (by kernel_rfl) (fun _ _ _ h => h) rfl hT (fun W _ => ?_) ?_
                            rotate_left
                            · (go_simp; try with_reducible rfl)
                            try simp only [Act.put, List.setIfInBounds_toArray, List.set_cons_zero, List.set_cons_succ]
                            refine dr_take 3 (some 121) (v := ?_) rfl rfl (by kernel_rfl) (by kernel_rfl) (by kernel_rfl) (fun _ _ _ h => h) rfl hT (fun W _ => ?_) ?_
                            rotate_left
                            · (go_simp; try with_reducible rfl)
                            try simp only [Act.put, List.setIfInBounds_toArray, List.set_cons_zero, List.set_cons_succ]
                            refine dr_take 4 (some 122) (v := ?_) rfl rfl (by kernel_rfl) (by kernel_rfl) (by kernel_rfl) (fun _ _ _ h => h) rfl hT (fun W _ => ?_) ?_
                            rotate_left
                            · (go_simp; try with_reducible rfl)
                            try simp only [Act.put, List.setIfInBounds_toArray, List.set_cons_zero, List.set_cons_succ]
                            refine dr_take 5 (some 123) (v := ?_) rfl rfl (by kernel_rfl) (by kernel_rfl) (by kernel_rfl) (fun _ _ _ h => h) rfl hT (fun W _ => ?_) ?_
                            rotate_left
                            · (go_simp; try with_reducible rfl)
                            try simp only [Act.put, List.setIfInBounds_toArray, List.set_cons_zero, List.set_cons_succ]
                            refine dr_take 6 (some 124) (v := ?_) rfl rfl (by kernel_rfl) (by kernel_rfl) (by kernel_rfl) (fun _ _ _ h => h) rfl hT (fun W _ => ?_) ?_
                            rotate_left
                            · (go_simp; try with_reducible rfl)
                            try simp only [Act.put, List.setIfInBounds_toArray, List.set_cons_zero, List.set_cons_succ]
                            refine dr_take 7 (some 125) (v := ?_) rfl rfl (by kernel_rfl) (by kernel_rfl) (by kernel_rfl) (fun _ _ _ h => h) rfl hT (fun W hW => ?_) ?_
                            rotate_left
                            · (have h1 := hW.2.1; go_simp; try with_reducible rfl)
                            try simp only [Act.put, List.setIfInBounds_toArray, List.set_cons_zero, List.set_cons_succ]
                            refine dr_take 8 (some 126) (v := ?_) rfl rfl (by kernel_rfl) (by kernel_rfl) (by kernel_rfl) (fun _ _ _ h => h) rfl hT (fun W _ => ?_) ?_
                            rotate_left
                            · (go_simp; try with_reducible rfl)
                            try simp only [Act.put, List.setIfInBounds_toArray, List.set_cons_zero, List.set_cons_succ]
                            refine dr_take 9 (some 127) (v := ?_) rfl rfl (by kernel_rfl) (by kernel_rfl) (by kernel_rfl) (fun _ _ _ h => h) rfl hT (fun W _ => ?_) ?_
                            rotate_left
                            · (go_simp; try with_reducible rfl)
                            try simp only [Act.put, List.setIfInBounds_toArray, List.set_cons_zero, List.set_cons_succ]
                            refine dr_take 10 (some 128) (v := ?_) rfl rfl (by kernel_rfl) (by kernel_rfl) (by kernel_rfl) (fun _ _ _ h => h) rfl hT (fun W _ => ?_) ?_
                            rotate_left
                            · (go_simp; try with_reducible rfl)
                            try simp only [Act.put, List.setIfInBounds_toArray, List.set_cons_zero, List.set_cons_succ]
                            refine dr_take 11 (some 129) (v := ?_) rfl rfl (by kernel_rfl) (by kernel_rfl) (by kernel_rfl) (fun _ _ _ h => h) rfl hT (fun W hW => ?_) ?_
                            rotate_left
                            · (have h1 := hW.2.2; go_simp; try with_reducible rfl)
                            try simp only [Act.put, List.setIfInBounds_toArray, List.set_cons_zero, List.set_cons_succ]
                            refine dr_take 12 (some 130) (v := ?_) rfl rfl (by kernel_rfl) (by kernel_rfl) (by kernel_rfl) (fun _ _ _ h => h) rfl hT (fun W _ => ?_) ?_
                            rotate_left
                            · (go_simp; try with_reducible rfl)
                            try simp only [Act.put, List.setIfInBounds_toArray, List.set_cons_zero, List.set_cons_succ]
                            refine dr_take 13 (some 131) (v := ?_) rfl rfl (by kernel_rfl) (by kernel_rfl) (by kernel_rfl) (fun _ _ _ h => h) rfl hT (fun W _ => ?_) ?_
                            rotate_left
                            · (go_simp; try with_reducible rfl)
                            try simp only [Act.put, List.setIfInBounds_toArray, List.set_cons_zero, List.set_cons_succ]
                            refine dr_take 14 (some 132) (v := ?_) rfl rfl (by kernel_rfl) (by kernel_rfl) (by kernel_rfl) (fun _ _ _ h => h) rfl hT (fun W _ => ?_) ?_
                            rotate_left
                            · (go_simp; try with_reducible rfl)
                            try simp only [Act.put, List.setIfInBounds_toArray, List.set_cons_zero, List.set_cons_succ]
                            refine dr_take 15 (some 133) (v := ?_) rfl rfl (by kernel_rfl) (by kernel_rfl) (by kernel_rfl) (fun _ _ _ h => h) rfl hT (fun W _ => ?_) ?_
                            rotate_left
                            · (go_simp; try with_reducible rfl)
                            try simp only [Act.put, List.setIfInBounds_toArray, List.set_cons_zero, List.set_cons_succ]
                            refine dr_take 16 (some 134) (v := ?_) rfl rfl (by kernel_rfl) (by kernel_rfl) (by kernel_rfl) (fun _ _ _ h => h) rfl hT (fun W _ => ?_) ?_
                            rotate_left
                            · (go_simp; try with_reducible rfl)
                            try simp only [Act.put, List.setIfInBounds_toArray, List.set_cons_zero, List.set_cons_succ]
                            refine dr_take 17 (some 135) (v := ?_) rfl rfl (by kernel_rfl) (by kernel_rfl) (by kernel_rfl) (fun _ _ _ h => h) rfl hT (fun W _ => ?_) ?_
                            rotate_left
                            · (go_simp; try with_reducible rfl)
                            try simp only [Act.put, List.setIfInBounds_toArray, List.set_cons_zero, List.set_cons_succ]
                            refine dr_take 18 (some 136) (v := ?_) rfl rfl (by kernel_rfl) (by kernel_rfl) (by kernel_rfl) (fun _ _ _ h => h) rfl hT (fun W _ => ?_) ?_
                            rotate_left
                            · (go_simp; try with_reducible rfl)
                            try simp only [Act.put, List.setIfInBounds_toArray, List.set_cons_zero, List.set_cons_succ]
                            refine dr_skip 19 (some 137) rfl rfl (by kernel_rfl) (by kernel_rfl) (by kernel_rfl) (fun _ _ _ h => h) rfl hT ?_
                            try simp only [Act.put, List.setIfInBounds_toArray, List.set_cons_zero, List.set_cons_succ]
                            refine dr_skip 20 (some 138) rfl rfl (by kernel_rfl) (by kernel_rfl) (by kernel_rfl) (fun _ _ _ h => h) rfl hT ?_
                            try simp only [Act.put, List.setIfInBounds_toArray, List.set_cons_zero, List.set_cons_succ]
                            refine dr_skip 21 (some 139) rfl rfl (by kernel_rfl) (by kernel_rfl) (by kernel_rfl) (fun _ _ _ h => h) rfl hT ?_
                            try simp only [Act.put, List.setIfInBounds_toArray, List.set_cons_zero, List.set_cons_succ]
                            refine dr_skip 22 (some 140) rfl rfl (by kernel_rfl) (by kernel_rfl) (by kernel_rfl) (fun _ _ _ h => h) rfl hT ?_
                            try simp only [Act.put, List.setIfInBounds_toArray, List.set_cons_zero, List.set_cons_succ]
                            refine dr_skip 23 (some 141) rfl rfl (by kernel_rfl) (by kernel_rfl) (by kernel_rfl) (fun _ _ _ h => h) rfl hT ?_
                            try simp only [Act.put, List.setIfInBounds_toArray, List.set_cons_zero, List.set_cons_succ]
                            refine dr_skip 24 (some 142) rfl rfl (by kernel_rfl) (by kernel_rfl) (by kernel_rfl) (fun _ _ _ h => h) rfl hT ?_
                            try simp only [Act.put, List.setIfInBounds_toArray, List.set_cons_zero, List.set_cons_succ]
                            refine dr_take 25 (some 143) (v := ?_) rfl rfl (by kernel_rfl) (by kernel_rfl) (by kernel_rfl) (fun _ _ _ h => h) rfl hT (fun W _ => ?_) ?_
                            rotate_left
                            · (go_simp; try with_reducible rfl)
                            try simp only [Act.put, List.setIfInBounds_toArray, List.set_cons_zero, List.set_cons_succ]
                            refine dr_take 26 (some 144) (v := ?_) rfl rfl (by kernel_rfl) (by kernel_rfl) (by kernel_rfl) (fun _ _ _ h => h) rfl hT (fun W _ => ?_) ?_
                            rotate_left
                            · (go_simp; try with_reducible rfl)
                            try simp only [Act.put, List.setIfInBounds_toArray, List.set_cons_zero, List.set_cons_succ]
                            refine dr_done (by kernel_rfl) ?_
                            go_wp2_with fail
                            go_roundw
                            case rel => exact ⟨k + 1, by omega, by go_num, own_keep hoy (Ch.refl [] wB).drew (by simp), hchy.drew⟩
                            case measure => simp [intOf]; omega
                          · have t1 : decide ((k : Int) < (q : Int)) = false := by simpa using hkN
                            have t2 : decide ((k : Int) ≥ (q : Int)) = true := by simp; omega
                            have t3 : decide (q ≤ k) = true := by simp; omega
                            have t4 : decide (k < q) = false := by simp; omega
                            have hcy := row_byte hoy k 0 (sec_old HL.out k (by omega) hlk)
                            rw [show ((0 : Nat) : Int) = 0 from rfl] at hcy
                            go_wp2_with fail
                            refine dr_begin (by kernel_rfl) ?_
                            refine dr_more (fun W => W.cell? ⟨yb, k, none⟩ = some (.int .u8 0) ∧ True) ?_
                            have hT : True ∧ (wB.drew.cell? ⟨yb, k, none⟩ = some (.int .u8 0) ∧ True) := ⟨trivial, hcy, trivial⟩
                            refine dr_take 0 (some 118) (v := ?_) rfl rfl (by kernel_rfl) (by kernel_rfl) (by kernel_rfl) (fun _ _ _ h => h) rfl hT (fun W _ => ?_) ?_
                            rotate_left
                            · (go_simp; try with_reducible rfl)
                            try simp only [Act.put, List.setIfInBounds_toArray, List.set_cons_zero, List.set_cons_succ]
                            refine dr_take 1 (some 119) (v := ?_) rfl rfl (by kernel_rfl) (by kernel_rfl) (by kernel_rfl) (fun _ _ _ h => h) rfl hT (fun W _ => ?_) ?_
                            rotate_left
                            · (go_simp; try with_reducible rfl)
                            try simp only [Act.put, List.setIfInBounds_toArray, List.set_cons_zero, List.set_cons_succ]
                            refine dr_take 2 (some 120) (v := ?_) rfl rfl (by kernel_rfl) (by kernel_rfl) (by kernel_rfl) (fun _ _ _ h => h) rfl hT (fun W _ => ?_) ?_
                            rotate_left
                            · (go_simp; try with_reducible rfl)
                            try simp only [Act.put, List.setIfInBounds_toArray, List.set_cons_zero, List.set_cons_succ]
                            refine dr_take 3 (some 121) (v := ?_) rfl rfl (by kernel_rfl) (by kernel_rfl) (by kernel_rfl) (fun _ _ _ h => h) rfl hT (fun W _ => ?_) ?_
                            rotate_left
                            · (go_simp; try with_reducible rfl)
                            try simp only [Act.put, List.setIfInBounds_toArray, List.set_cons_zero, List.set_cons_succ]
                            refine dr_skip 4 (some 122) rfl rfl (by kernel_rfl) (by kernel_rfl) (by kernel_rfl) (fun _ _ _ h => h) rfl hT ?_
                            try simp only [Act.put, List.setIfInBounds_toArray, List.set_cons_zero, List.set_cons_succ]
                            refine dr_skip 5 (some 123) rfl rfl (by kernel_rfl) (by kernel_rfl) (by kernel_rfl) (fun _ _ _ h => h) rfl hT ?_
                            try simp only [Act.put, List.setIfInBounds_toArray, List.set_cons_zero, List.set_cons_succ]
                            refine dr_skip 6 (some 124) rfl rfl (by kernel_rfl) (by kernel_rfl) (by kernel_rfl) (fun _ _ _ h => h) rfl hT ?_
                            try simp only [Act.put, List.setIfInBounds_toArray, List.set_cons_zero, List.set_cons_succ]
                            refine dr_skip 7 (some 125) rfl rfl (by kernel_rfl) (by kernel_rfl) (by kernel_rfl) (fun _ _ _ h => h) rfl hT ?_
                            try simp only [Act.put, List.setIfInBounds_toArray, List.set_cons_zero, List.set_cons_succ]
                            refine dr_skip 8 (some 126) rfl rfl (by kernel_rfl) (by kernel_rfl) (by kernel_rfl) (fun _ _ _ h => h) rfl hT ?_
                            try simp only [Act.put, List.setIfInBounds_toArray, List.set_cons_zero, List.set_cons_succ]
                            refine dr_skip 9 (some 127) rfl rfl (by kernel_rfl) (by kernel_rfl) (by kernel_rfl) (fun _ _ _ h => h) rfl hT ?_
                            try simp only [Act.put, List.setIfInBounds_toArray, List.set_cons_zero, List.set_cons_succ]
                            refine dr_skip 10 (some 128) rfl rfl (by kernel_rfl) (by kernel_rfl) (by kernel_rfl) (fun _ _ _ h => h) rfl hT ?_
                            try simp only [Act.put, List.setIfInBounds_toArray, List.set_cons_zero, List.set_cons_succ]
                            refine dr_skip 11 (some 129) rfl rfl (by kernel_rfl) (by kernel_rfl) (by kernel_rfl) (fun _ _ _ h => h) rfl hT ?_
                            try simp only [Act.put, List.setIfInBounds_toArray, List.set_cons_zero, List.set_cons_succ]
                            refine dr_skip 12 (some 130) rfl rfl (by kernel_rfl) (by kernel_rfl) (by kernel_rfl) (fun _ _ _ h => h) rfl hT ?_
                            try simp only [Act.put, List.setIfInBounds_toArray, List.set_cons_zero, List.set_cons_succ]
                            refine dr_take 13 (some 131) (v := ?_) rfl rfl (by kernel_rfl) (by kernel_rfl) (by kernel_rfl) (fun _ _ _ h => h) rfl hT (fun W _ => ?_) ?_
                            rotate_left
                            · (go_simp; try with_reducible rfl)
                            try simp only [Act.put, List.setIfInBounds_toArray, List.set_cons_zero, List.set_cons_succ]
                            refine dr_take 14 (some 132) (v := ?_) rfl rfl (by kernel_rfl) (by kernel_rfl) (by kernel_rfl) (fun _ _ _ h => h) rfl hT (fun W _ => ?_) ?_
                            rotate_left
                            · (go_simp; try with_reducible rfl)
                            try simp only [Act.put, List.setIfInBounds_toArray, List.set_cons_zero, List.set_cons_succ]
                            refine dr_take 15 (some 133) (v := ?_) rfl rfl (by kernel_rfl) (by kernel_rfl) (by kernel_rfl) (fun _ _ _ h => h) rfl hT (fun W _ => ?_) ?_
                            rotate_left
                            · (go_simp; try with_reducible rfl)
                            try simp only [Act.put, List.setIfInBounds_toArray, List.set_cons_zero, List.set_cons_succ]
                            refine dr_take 16 (some 134) (v := ?_) rfl rfl (by kernel_rfl) (by kernel_rfl) (by kernel_rfl) (fun _ _ _ h => h) rfl hT (fun W _ => ?_) ?_
                            rotate_left
                            · (go_simp; try with_reducible rfl)
                            try simp only [Act.put, List.setIfInBounds_toArray, List.set_cons_zero, List.set_cons_succ]
                            refine dr_take 17 (some 135) (v := ?_) rfl rfl (by kernel_rfl) (by kernel_rfl) (by kernel_rfl) (fun _ _ _ h => h) rfl hT (fun W _ => ?_) ?_
                            rotate_left
                            · (go_simp; try with_reducible rfl)
                            try simp only [Act.put, List.setIfInBounds_toArray, List.set_cons_zero, List.set_cons_succ]
                            refine dr_take 18 (some 136) (v := ?_) rfl rfl (by kernel_rfl) (by kernel_rfl) (by kernel_rfl) (fun _ _ _ h => h) rfl hT (fun W _ => ?_) ?_
                            rotate_left
                            · (go_simp; try with_reducible rfl)
                            try simp only [Act.put, List.setIfInBounds_toArray, List.set_cons_zero, List.set_cons_succ]
                            refine dr_take 19 (some 137) (v := ?_) rfl rfl (by kernel_rfl) (by kernel_rfl) (by kernel_rfl) (fun _ _ _ h => h) rfl hT (fun W _ => ?_) ?_
                            rotate_left
                            · (go_simp; try with_reducible rfl)
                            try simp only [Act.put, List.setIfInBounds_toArray, List.set_cons_zero, List.set_cons_succ]
                            refine dr_take 20 (some 138) (v := ?_) rfl rfl (by kernel_rfl) (by kernel_rfl) (by kernel_rfl) (fun _ _ _ h => h) rfl hT (fun W _ => ?_) ?_
                            rotate_left
                            · (go_simp; try with_reducible rfl)
                            try simp only [Act.put, List.setIfInBounds_toArray, List.set_cons_zero, List.set_cons_succ]
                            refine dr_take 21 (some 139) (v := ?_) rfl rfl (by kernel_rfl) (by kernel_rfl) (by kernel_rfl) (fun _ _ _ h => h) rfl hT (fun W _ => ?_) ?_
                            rotate_left
                            · (go_simp; try with_reducible rfl)
                            try simp only [Act.put, List.setIfInBounds_toArray, List.set_cons_zero, List.set_cons_succ]
                            refine dr_take 22 (some 140) (v := ?_) rfl rfl (by kernel_rfl) (by kernel_rfl) (by kernel_rfl) (fun _ _ _ h => h) rfl hT (fun W hW => ?_) ?_
                            rotate_left
                            · (have h1 := hW.2.1; go_simp; try with_reducible rfl)
                            try simp only [Act.put, List.setIfInBounds_toArray, List.set_cons_zero, List.set_cons_succ]
                            refine dr_take 23 (some 141) (v := ?_) rfl rfl (by kernel_rfl) (by kernel_rfl) (by kernel_rfl) (fun _ _ _ h => h) rfl hT (fun W _ => ?_) ?_
                            rotate_left
                            · (go_simp; try with_reducible rfl)
                            try simp only [Act.put, List.setIfInBounds_toArray, List.set_cons_zero, List.set_cons_succ]
                            refine dr_take 24 (some 142) (v := ?_) rfl rfl (by kernel_rfl) (by kernel_rfl) (by kernel_rfl) (fun _ _ _ h => h) rfl hT (fun W _ => ?_) ?_
                            rotate_left
                            · (go_simp; try with_reducible rfl)
                            try simp only [Act.put, List.setIfInBounds_toArray, List.set_cons_zero, List.set_cons_succ]
                            refine dr_take 25 (some 143) (v := ?_) rfl rfl (by kernel_rfl) (by kernel_rfl) (by kernel_rfl) (fun _ _ _ h => h) rfl hT (fun W _ => ?_) ?_
                            rotate_left
                            · (go_simp; try with_reducible rfl)
                            try simp only [Act.put, List.setIfInBounds_toArray, List.set_cons_zero, List.set_cons_succ]
                            refine dr_take 26 (some 144) (v := ?_) rfl rfl (by kernel_rfl) (by kernel_rfl) (by kernel_rfl) (fun _ _ _ h => h) rfl hT (fun W _ => ?_) ?_
                            rotate_left
                            · (go_simp; try with_reducible rfl)
                            try simp only [Act.put, List.setIfInBounds_toArray, List.set_cons_zero, List.set_cons_succ]
                            refine dr_done (by kernel_rfl) ?_
                            go_wp2_with fail
                            go_roundw
                            case rel => exact ⟨k + 1, by omega, by go_num, own_keep hoy (Ch.refl [] wB).drew (by simp), hchy.drew⟩
                            case measure => simp [intOf]; omega
                        · obtain rfl : k = 64 := by omega
                          clear hlk hk
                          have hdE := hd2.nil hchy
                          have hcE := hc2.trans hchy (by simp)
                          go_wp2_with fail
                          go_roundw
                          case rel => exact ⟨i + 1, by omega, by go_num, hdE, hcE⟩
                          case measure => simp [intOf]; omega
                  · have t9 : ((i : Int) == torn) = false := by rw [beq_eq_false_iff_ne]; exact hit
                    by_cases hbb : keep / 2 ^ i % 2 = 1
                    · have t10 : (bits BinOp.and IntKind.u64 ((keep : Int) / 2 ^ i) 1 == 1) = true := by rw [hbit, hbb]; rfl
                      clear hbit
                      have hit' := Lib.hid hit
                      clear hit
                      have hN : newsOf lb keep torn q i = 64 := by simp [newsOf, show i < lb.length from by rw [HLB.out]; exact hib, hit'.out, hbb]
                      have hL : dz.read i = List.replicate (64) (lb.getD i 0) ++ List.replicate (64 - (64)) (oldOf la i) := by have h9 := Hz2.out i hlt; rw [hN] at h9; exact h9
                      have hll : (dz.read i).length = 64 := by rw [hL]; simp
                      have Ha := Hz1.out i hlt
                      rw [HGA.out] at hL
                      generalize hbi : lb.getD i 0 = bi at *
                      go_wp2_with fail
                      refine (read_any b g m [] dz i wA hd Ha).mono ?_
                      rintro e w2 ⟨v2, rfl, ho2, hcr⟩
                      obtain ⟨yb, yc, rfl, hyb, hyl, hrow2⟩ := ho2.get (by rw [hll]; omega)
                      rw [hll] at hrow2
                      rw [hll]
                      have hd2 := hd.nil hcr
                      have hc2 := hch.trans hcr (by simp)
                      have hcb1 := hc2.cell hcb0 (by simp)
                      have HN := Lib.hid hN
                      have HL := Lib.hid hL
                      have HLL := Lib.hid hll
                      clear ho2 hN hL hll Ha
                      generalize hLe : dz.read i = L at *
                      have hL := HL.out
                      clear HL
                      have HL := Lib.hid hL
                      clear hL
                      go_wp2_with fail
                      clear hcb0
                      go_loopw [19] (fun j wr => ∃ k : Nat, k ≤ 64 ∧ j = .int .i64 k ∧ wr.ownsRow wA.heap.size 5 1 (.slice (some ⟨yb, 0, none⟩) 64 yc) 64 (bvs L) ∧ Ch [] w2 wr) (fun j _ => 64 - (intOf j).toNat)
                      case atStart => exact ⟨0, by omega, rfl, hrow2, Ch.refl _ _⟩
                      case round =>
                        clear hrow2
                        obtain ⟨k, hk, rfl, hoy, hchy⟩ := hrel
                        obtain ⟨wB, hwB⟩ : ∃ W, W = wr := ⟨_, rfl⟩
                        subst hwB
                        by_cases hlk : k < 64
                        · have hk64 : (k : Int) < 64 := by omega
                          have hk00 : (0 : Int) ≤ (k : Int) := by omega
                          have t1 : decide ((k : Int) < 64) = true := by simp; omega
                          have t2 : decide ((k : Int) ≥ 64) = false := by simp; omega
                          have t3 : decide ((64 : Int) ≤ (k : Int)) = false := by simp; omega
                          have hcy := row_byte hoy k _ (sec_new HL.out k (by omega))
                          have hcb2 := hchy.cell hcb1 (by simp)
                          go_wp2_with fail
                          refine dr_begin (by kernel_rfl) ?_
                          refine dr_more (fun W => W.cell? ⟨yb, k, none⟩ = some (.int .u8 (bi.toNat : Int)) ∧ W.cell? ⟨bb, bo + i, none⟩ = some (.int .u8 (bi.toNat : Int))) ?_
                          have hT : True ∧ (wB.drew.cell? ⟨yb, k, none⟩ = some (.int .u8 (bi.toNat : Int)) ∧ wB.drew.cell? ⟨bb, bo + i, none⟩ = some (.int .u8 (bi.toNat : Int))) := ⟨trivial, hcy, hcb2⟩
                          refine dr_take 0 (some 118) (v := ?_) rfl rfl (by kernel_rfl) (by kernel_rfl) (by kernel_rfl) (fun _ _ _ h => h) rfl hT (fun W _ => ?_) ?_
                          rotate_left
                          · (go_simp; try with_reducible rfl)
                          try simp only [Act.put, List.setIfInBounds_toArray, List.set_cons_zero, List.set_cons_succ]
                          refine dr_take 1 (some 119) (v := ?_) rfl rfl (by kernel_rfl) (by kernel_rfl) (by kernel_rfl) (fun _ _ _ h => h) rfl hT (fun W _ => ?_) ?_
                          rotate_left
                          · (go_simp; try with_reducible rfl)
                          try simp only [Act.put, List.setIfInBounds_toArray, List.set_cons_zero, List.set_cons_succ]
                          refine dr_take 2 (some 120) (v := ?_) rfl rfl (by kernel_rfl) (by kernel_rfl) (by kernel_rfl) (fun _ _ _ h => h) rfl hT (fun W _ => ?_) ?_
                          rotate_left
                          · (go_simp; try with_reducible rfl)
                          try simp only [Act.put, List.setIfInBounds_toArray, List.set_cons_zero, List.set_cons_succ]
                          refine dr_take 3 (some 121) (v := ?_) rfl rfl (by kernel_rfl) (by kernel_rfl) (by kernel_rfl) (fun _ _ _ h => h) rfl hT (fun W _ => ?_) ?_
                          rotate_left
                          · (go_simp; try with_reducible rfl)
                          try simp only [Act.put, List.setIfInBounds_toArray, List.set_cons_zero, List.set_cons_succ]
                          refine dr_take 4 (some 122) (v := ?_) rfl rfl (by kernel_rfl) (by kernel_rfl) (by kernel_rfl) (fun _ _ _ h => h) rfl hT (fun W _ => ?_) ?_
                          rotate_left
                          · (go_simp; try with_reducible rfl)
                          try simp only [Act.put, List.setIfInBounds_toArray, List.set_cons_zero, List.set_cons_succ]
                          refine dr_take 5 (some 123) (v := ?_) rfl rfl (by kernel_rfl) (by kernel_rfl) (by kernel_rfl) (fun _ _ _ h => h) rfl hT (fun W _ => ?_) ?_
                          rotate_left
                          · (go_simp; try with_reducible rfl)
                          try simp only [Act.put, List.setIfInBounds_toArray, List.set_cons_zero, List.set_cons_succ]
                          refine dr_take 6 (some 124) (v := ?_) rfl rfl (by kernel_rfl) (by kernel_rfl) (by kernel_rfl) (fun _ _ _ h => h) rfl hT (fun W _ => ?_) ?_
                          rotate_left
                          · (go_simp; try with_reducible rfl)
                          try simp only [Act.put, List.setIfInBounds_toArray, List.set_cons_zero, List.set_cons_succ]
                          refine dr_take 7 (some 125) (v := ?_) rfl rfl (by kernel_rfl) (by kernel_rfl) (by kernel_rfl) (fun _ _ _ h => h) rfl hT (fun W hW => ?_) ?_
                          rotate_left
                          · (have h1 := hW.2.1; go_simp; try with_reducible rfl)
                          try simp only [Act.put, List.setIfInBounds_toArray, List.set_cons_zero, List.set_cons_succ]
                          refine dr_take 8 (some 126) (v := ?_) rfl rfl (by kernel_rfl) (by kernel_rfl) (by kernel_rfl) (fun _ _ _ h => h) rfl hT (fun W _ => ?_) ?_
                          rotate_left
                          · (go_simp; try with_reducible rfl)
                          try simp only [Act.put, List.setIfInBounds_toArray, List.set_cons_zero, List.set_cons_succ]
                          refine dr_take 9 (some 127) (v := ?_) rfl rfl (by kernel_rfl) (by kernel_rfl) (by kernel_rfl) (fun _ _ _ h => h) rfl hT (fun W _ => ?_) ?_
                          rotate_left
                          · (go_simp; try with_reducible rfl)
                          try simp only [Act.put, List.setIfInBounds_toArray, List.set_cons_zero, List.set_cons_succ]
                          refine dr_take 10 (some 128) (v := ?_) rfl rfl (by kernel_rfl) (by kernel_rfl) (by kernel_rfl) (fun _ _ _ h => h) rfl hT (fun W _ => ?_) ?_
                          rotate_left
                          · (go_simp; try with_reducible rfl)
                          try simp only [Act.put, List.setIfInBounds_toArray, List.set_cons_zero, List.set_cons_succ]
                          refine dr_take 11 (some 129) (v := ?_) rfl rfl (by kernel_rfl) (by kernel_rfl) (by kernel_rfl) (fun _ _ _ h => h) rfl hT (fun W hW => ?_) ?_
                          rotate_left
                          · (have h1 := hW.2.2; go_simp; try with_reducible rfl)
                          try simp only [Act.put, List.setIfInBounds_toArray, List.set_cons_zero, List.set_cons_succ]
                          refine dr_take 12 (some 130) (v := ?_) rfl rfl (by kernel_rfl) (by kernel_rfl) (by kernel_rfl) (fun _ _ _ h => h) rfl hT (fun W _ => ?_) ?_
                          rotate_left
                          · (go_simp; try with_reducible rfl)
                          try simp only [Act.put, List.setIfInBounds_toArray, List.set_cons_zero, List.set_cons_succ]
                          refine dr_take 13 (some 131) (v := ?_) rfl rfl (by kernel_rfl) (by kernel_rfl) (by kernel_rfl) (fun _ _ _ h => h) rfl hT (fun W _ => ?_) ?_
                          rotate_left
                          · (go_simp; try with_reducible rfl)
                          try simp only [Act.put, List.setIfInBounds_toArray, List.set_cons_zero, List.set_cons_succ]
                          refine dr_take 14 (some 132) (v := ?_) rfl rfl (by kernel_rfl) (by kernel_rfl) (by kernel_rfl) (fun _ _ _ h => h) rfl hT (fun W _ => ?_) ?_
                          rotate_left
                          · (go_simp; try with_reducible rfl)
                          try simp only [Act.put, List.setIfInBounds_toArray, List.set_cons_zero, List.set_cons_succ]
                          refine dr_take 15 (some 133) (v := ?_) rfl rfl (by kernel_rfl) (by kernel_rfl) (by kernel_rfl) (fun _ _ _ h => h) rfl hT (fun W _ => ?_) ?_
                          rotate_left
                          · (go_simp; try with_reducible rfl)
                          try simp only [Act.put, List.setIfInBounds_toArray, List.set_cons_zero, List.set_cons_succ]
                          refine dr_take 16 (some 134) (v := ?_) rfl rfl (by kernel_rfl) (by kernel_rfl) (by kernel_rfl) (fun _ _ _ h => h) rfl hT (fun W _ => ?_) ?_
                          rotate_left
                          · (go_simp; try with_reducible rfl)
                          try simp only [Act.put, List.setIfInBounds_toArray, List.set_cons_zero, List.set_cons_succ]
                          refine dr_take 17 (some 135) (v := ?_) rfl rfl (by kernel_rfl) (by kernel_rfl) (by kernel_rfl) (fun _ _ _ h => h) rfl hT (fun W _ => ?_) ?_
                          rotate_left
                          · (go_simp; try with_reducible rfl)
                          try simp only [Act.put, List.setIfInBounds_toArray, List.set_cons_zero, List.set_cons_succ]
                          refine dr_take 18 (some 136) (v := ?_) rfl rfl (by kernel_rfl) (by kernel_rfl) (by kernel_rfl) (fun _ _ _ h => h) rfl hT (fun W _ => ?_) ?_
                          rotate_left
                          · (go_simp; try with_reducible rfl)
                          try simp only [Act.put, List.setIfInBounds_toArray, List.set_cons_zero, List.set_cons_succ]
                          refine dr_skip 19 (some 137) rfl rfl (by kernel_rfl) (by kernel_rfl) (by kernel_rfl) (fun _ _ _ h => h) rfl hT ?_
                          try simp only [Act.put, List.setIfInBounds_toArray, List.set_cons_zero, List.set_cons_succ]
                          refine dr_skip 20 (some 138) rfl rfl (by kernel_rfl) (by kernel_rfl) (by kernel_rfl) (fun _ _ _ h => h) rfl hT ?_
                          try simp only [Act.put, List.setIfInBounds_toArray, List.set_cons_zero, List.set_cons_succ]
                          refine dr_skip 21 (some 139) rfl rfl (by kernel_rfl) (by kernel_rfl) (by kernel_rfl) (fun _ _ _ h => h) rfl hT ?_
                          try simp only [Act.put, List.setIfInBounds_toArray, List.set_cons_zero, List.set_cons_succ]
                          refine dr_skip 22 (some 140) rfl rfl (by kernel_rfl) (by kernel_rfl) (by kernel_rfl) (fun _ _ _ h => h) rfl hT ?_
                          try simp only [Act.put, List.setIfInBounds_toArray, List.set_cons_zero, List.set_cons_succ]
                          refine dr_skip 23 (some 141) rfl rfl (by kernel_rfl) (by kernel_rfl) (by kernel_rfl) (fun _ _ _ h => h) rfl hT ?_
                          try simp only [Act.put, List.setIfInBounds_toArray, List.set_cons_zero, List.set_cons_succ]
                          refine dr_skip 24 (some 142) rfl rfl (by kernel_rfl) (by kernel_rfl) (by kernel_rfl) (fun _ _ _ h => h) rfl hT ?_
                          try simp only [Act.put, List.setIfInBounds_toArray, List.set_cons_zero, List.set_cons_succ]
                          refine dr_take 25 (some 143) (v := ?_) rfl rfl (by kernel_rfl) (by kernel_rfl) (by kernel_rfl) (fun _ _ _ h => h) rfl hT (fun W _ => ?_) ?_
                          rotate_left
                          · (go_simp; try with_reducible rfl)
                          try simp only [Act.put, List.setIfInBounds_toArray, List.set_cons_zero, List.set_cons_succ]
                          refine dr_take 26 (some 144) (v := ?_) rfl rfl (by kernel_rfl) (by kernel_rfl) (by kernel_rfl) (fun _ _ _ h => h) rfl hT (fun W _ => ?_) ?_
                          rotate_left
                          · (go_simp; try with_reducible rfl)
                          try simp only [Act.put, List.setIfInBounds_toArray, List.set_cons_zero, List.set_cons_succ]
                          refine dr_done (by kernel_rfl) ?_
                          go_wp2_with fail
                          go_roundw
                          case rel => exact ⟨k + 1, by omega, by go_num, own_keep hoy (Ch.refl [] wB).drew (by simp), hchy.drew⟩
                          case measure => simp [intOf]; omega
                        · obtain rfl : k = 64 := by omega
                          clear hlk hk
                          have hdE := hd2.nil hchy
                          have hcE := hc2.trans hchy (by simp)
                          go_wp2_with fail
                          go_roundw
                          case rel => exact ⟨i + 1, by omega, by go_num, hdE, hcE⟩
                          case measure => simp [intOf]; omega
                    · have t10 : (bits BinOp.and IntKind.u64 ((keep : Int) / 2 ^ i) 1 == 1) = false := by rw [hbit, beq_eq_false_iff_ne]; omega
                      clear hbit
                      have hit' := Lib.hid hit
                      clear hit
                      have hN : newsOf lb keep torn q i = 0 := by simp [newsOf, show i < lb.length from by rw [HLB.out]; exact hib, hit'.out, hbb]
                      have hL : dz.read i = List.replicate (0) (lb.getD i 0) ++ List.replicate (64 - (0)) (oldOf la i) := by have h9 := Hz2.out i hlt; rw [hN] at h9; exact h9
                      have hll : (dz.read i).length = 64 := by rw [hL]; simp
                      have Ha := Hz1.out i hlt
                      rw [HGA.out] at hL
                      generalize hbi : lb.getD i 0 = bi at *
                      go_wp2_with fail
                      refine (read_any b g m [] dz i wA hd Ha).mono ?_
                      rintro e w2 ⟨v2, rfl, ho2, hcr⟩
                      obtain ⟨yb, yc, rfl, hyb, hyl, hrow2⟩ := ho2.get (by rw [hll]; omega)
                      rw [hll] at hrow2
                      rw [hll]
                      have hd2 := hd.nil hcr
                      have hc2 := hch.trans hcr (by simp)
                      have HN := Lib.hid hN
                      have HL := Lib.hid hL
                      have HLL := Lib.hid hll
                      clear ho2 hN hL hll Ha
                      generalize hLe : dz.read i = L at *
                      have hL := HL.out
                      clear HL
                      have HL := Lib.hid hL
                      clear hL
                      go_wp2_with fail
                      clear hcb0
                      go_loopw [19] (fun j wr => ∃ k : Nat, k ≤ 64 ∧ j = .int .i64 k ∧ wr.ownsRow wA.heap.size 5 1 (.slice (some ⟨yb, 0, none⟩) 64 yc) 64 (bvs L) ∧ Ch [] w2 wr) (fun j _ => 64 - (intOf j).toNat)
                      case atStart => exact ⟨0, by omega, rfl, hrow2, Ch.refl _ _⟩
                      case round =>
                        clear hrow2
                        obtain ⟨k, hk, rfl, hoy, hchy⟩ := hrel
                        obtain ⟨wB, hwB⟩ : ∃ W, W = wr := ⟨_, rfl⟩
                        subst hwB
                        by_cases hlk : k < 64
                        · have hk64 : (k : Int) < 64 := by omega
                          have hk00 : (0 : Int) ≤ (k : Int) := by omega
                          have t1 : decide ((k : Int) < 0) = false := by simp
                          have t2 : decide ((k : Int) ≥ 0) = true := by simp
                          have t3 : decide ((0 : Int) ≤ (k : Int)) = true := by simp
                          have hcy := row_byte hoy k 0 (sec_old HL.out k (by omega) hlk)
                          rw [show ((0 : Nat) : Int) = 0 from rfl] at hcy
                          go_wp2_with fail
                          refine dr_begin (by kernel_rfl) ?_
                          refine dr_more (fun W => W.cell? ⟨yb, k, none⟩ = some (.int .u8 0) ∧ True) ?_
                          have hT : True ∧ (wB.drew.cell? ⟨yb, k, none⟩ = some (.int .u8 0) ∧ True) := ⟨trivial, hcy, trivial⟩
                          refine dr_take 0 (some 118) (v := ?_) rfl rfl (by kernel_rfl) (by kernel_rfl) (by kernel_rfl) (fun _ _ _ h => h) rfl hT (fun W _ => ?_) ?_
                          rotate_left
                          · (go_simp; try with_reducible rfl)
                          try simp only [Act.put, List.setIfInBounds_toArray, List.set_cons_zero, List.set_cons_succ]
                          refine dr_take 1 (some 119) (v := ?_) rfl rfl (by kernel_rfl) (by kernel_rfl) (by kernel_rfl) (fun _ _ _ h => h) rfl hT (fun W _ => ?_) ?_
                          rotate_left
                          · (go_simp; try with_reducible rfl)
                          try simp only [Act.put, List.setIfInBounds_toArray, List.set_cons_zero, List.set_cons_succ]
                          refine dr_take 2 (some 120) (v := ?_) rfl rfl (by kernel_rfl) (by kernel_rfl) (by kernel_rfl) (fun _ _ _ h => h) rfl hT (fun W _ => ?_) ?_
                          rotate_left
                          · (go_simp; try with_reducible rfl)
                          try simp only [Act.put, List.setIfInBounds_toArray, List.set_cons_zero, List.set_cons_succ]
                          refine dr_take 3 (some 121) (v := ?_) rfl rfl (by kernel_rfl) (by kernel_rfl) (by kernel_rfl) (fun _ _ _ h => h) rfl hT (fun W _ => ?_) ?_
                          rotate_left
                          · (go_simp; try with_reducible rfl)
                          try simp only [Act.put, List.setIfInBounds_toArray, List.set_cons_zero, List.set_cons_succ]
                          refine dr_skip 4 (some 122) rfl rfl (by kernel_rfl) (by kernel_rfl) (by kernel_rfl) (fun _ _ _ h => h) rfl hT ?_
                          try simp only [Act.put, List.setIfInBounds_toArray, List.set_cons_zero, List.set_cons_succ]
                          refine dr_skip 5 (some 123) rfl rfl (by kernel_rfl) (by kernel_rfl) (by kernel_rfl) (fun _ _ _ h => h) rfl hT ?_
                          try simp only [Act.put, List.setIfInBounds_toArray, List.set_cons_zero, List.set_cons_succ]
                          refine dr_skip 6 (some 124) rfl rfl (by kernel_rfl) (by kernel_rfl) (by kernel_rfl) (fun _ _ _ h => h) rfl hT ?_
                          try simp only [Act.put, List.setIfInBounds_toArray, List.set_cons_zero, List.set_cons_succ]
                          refine dr_skip 7 (some 125) rfl rfl (by kernel_rfl) (by kernel_rfl) (by kernel_rfl) (fun _ _ _ h => h) rfl hT ?_
                          try simp only [Act.put, List.setIfInBounds_toArray, List.set_cons_zero, List.set_cons_succ]
                          refine dr_skip 8 (some 126) rfl rfl (by kernel_rfl) (by kernel_rfl) (by kernel_rfl) (fun _ _ _ h => h) rfl hT ?_
                          try simp only [Act.put, List.setIfInBounds_toArray, List.set_cons_zero, List.set_cons_succ]
                          refine dr_skip 9 (some 127) rfl rfl (by kernel_rfl) (by kernel_rfl) (by kernel_rfl) (fun _ _ _ h => h) rfl hT ?_
                          try simp only [Act.put, List.setIfInBounds_toArray, List.set_cons_zero, List.set_cons_succ]
                          refine dr_skip 10 (some 128) rfl rfl (by kernel_rfl) (by kernel_rfl) (by kernel_rfl) (fun _ _ _ h => h) rfl hT ?_
                          try simp only [Act.put, List.setIfInBounds_toArray, List.set_cons_zero, List.set_cons_succ]
                          refine dr_skip 11 (some 129) rfl rfl (by kernel_rfl) (by kernel_rfl) (by kernel_rfl) (fun _ _ _ h => h) rfl hT ?_
                          try simp only [Act.put, List.setIfInBounds_toArray, List.set_cons_zero, List.set_cons_succ]
                          refine dr_skip 12 (some 130) rfl rfl (by kernel_rfl) (by kernel_rfl) (by kernel_rfl) (fun _ _ _ h => h) rfl hT ?_
                          try simp only [Act.put, List.setIfInBounds_toArray, List.set_cons_zero, List.set_cons_succ]
                          refine dr_take 13 (some 131) (v := ?_) rfl rfl (by kernel_rfl) (by kernel_rfl) (by kernel_rfl) (fun _ _ _ h => h) rfl hT (fun W _ => ?_) ?_
                          rotate_left
                          · (go_simp; try with_reducible rfl)
                          try simp only [Act.put, List.setIfInBounds_toArray, List.set_cons_zero, List.set_cons_succ]
                          refine dr_take 14 (some 132) (v := ?_) rfl rfl (by kernel_rfl) (by kernel_rfl) (by kernel_rfl) (fun _ _ _ h => h) rfl hT (fun W _ => ?_) ?_
                          rotate_left
                          · (go_simp; try with_reducible rfl)
                          try simp only [Act.put, List.setIfInBounds_toArray, List.set_cons_zero, List.set_cons_succ]
                          refine dr_take 15 (some 133) (v := ?_) rfl rfl (by kernel_rfl) (by kernel_rfl) (by kernel_rfl) (fun _ _ _ h => h) rfl hT (fun W _ => ?_) ?_
                          rotate_left
                          · (go_simp; try with_reducible rfl)
                          try simp only [Act.put, List.setIfInBounds_toArray, List.set_cons_zero, List.set_cons_succ]
                          refine dr_take 16 (some 134) (v := ?_) rfl rfl (by kernel_rfl) (by kernel_rfl) (by kernel_rfl) (fun _ _ _ h => h) rfl hT (fun W _ => ?_) ?_
                          rotate_left
                          · (go_simp; try with_reducible rfl)
                          try simp only [Act.put, List.setIfInBounds_toArray, List.set_cons_zero, List.set_cons_succ]
                          refine dr_take 17 (some 135) (v := ?_) rfl rfl (by kernel_rfl) (by kernel_rfl) (by kernel_rfl) (fun _ _ _ h => h) rfl hT (fun W _ => ?_) ?_
                          rotate_left
                          · (go_simp; try with_reducible rfl)
                          try simp only [Act.put, List.setIfInBounds_toArray, List.set_cons_zero, List.set_cons_succ]
                          refine dr_take 18 (some 136) (v := ?_) rfl rfl (by kernel_rfl) (by kernel_rfl) (by kernel_rfl) (fun _ _ _ h => h) rfl hT (fun W _ => ?_) ?_
                          rotate_left
                          · (go_simp; try with_reducible rfl)
                          try simp only [Act.put, List.setIfInBounds_toArray, List.set_cons_zero, List.set_cons_succ]
                          refine dr_take 19 (some 137) (v := ?_) rfl rfl (by kernel_rfl) (by kernel_rfl) (by kernel_rfl) (fun _ _ _ h => h) rfl hT (fun W _ => ?_) ?_
                          rotate_left
                          · (go_simp; try with_reducible rfl)
                          try simp only [Act.put, List.setIfInBounds_toArray, List.set_cons_zero, List.set_cons_succ]
                          refine dr_take 20 (some 138) (v := ?_) rfl rfl (by kernel_rfl) (by kernel_rfl) (by kernel_rfl) (fun _ _ _ h => h) rfl hT (fun W _ => ?_) ?_
                          rotate_left
                          · (go_simp; try with_reducible rfl)
                          try simp only [Act.put, List.setIfInBounds_toArray, List.set_cons_zero, List.set_cons_succ]
                          refine dr_take 21 (some 139) (v := ?_) rfl rfl (by kernel_rfl) (by kernel_rfl) (by kernel_rfl) (fun _ _ _ h => h) rfl hT (fun W _ => ?_) ?_
                          rotate_left
                          · (go_simp; try with_reducible rfl)
                          try simp only [Act.put, List.setIfInBounds_toArray, List.set_cons_zero, List.set_cons_succ]
                          refine dr_take 22 (some 140) (v := ?_) rfl rfl (by kernel_rfl) (by kernel_rfl) (by kernel_rfl) (fun _ _ _ h => h) rfl hT (fun W hW => ?_) ?_
                          rotate_left
                          · (have h1 := hW.2.1; go_simp; try with_reducible rfl)
                          try simp only [Act.put, List.setIfInBounds_toArray, List.set_cons_zero, List.set_cons_succ]
                          refine dr_take 23 (some 141) (v := ?_) rfl rfl (by kernel_rfl) (by kernel_rfl) (by kernel_rfl) (fun _ _ _ h => h) rfl hT (fun W _ => ?_) ?_
                          rotate_left
                          · (go_simp; try with_reducible rfl)
                          try simp only [Act.put, List.setIfInBounds_toArray, List.set_cons_zero, List.set_cons_succ]
                          refine dr_take 24 (some 142) (v := ?_) rfl rfl (by kernel_rfl) (by kernel_rfl) (by kernel_rfl) (fun _ _ _ h => h) rfl hT (fun W _ => ?_) ?_
                          rotate_left
                          · (go_simp; try with_reducible rfl)
                          try simp only [Act.put, List.setIfInBounds_toArray, List.set_cons_zero, List.set_cons_succ]
                          refine dr_take 25 (some 143) (v := ?_) rfl rfl (by kernel_rfl) (by kernel_rfl) (by kernel_rfl) (fun _ _ _ h => h) rfl hT (fun W _ => ?_) ?_
                          rotate_left
                          · (go_simp; try with_reducible rfl)
                          try simp only [Act.put, List.setIfInBounds_toArray, List.set_cons_zero, List.set_cons_succ]
                          refine dr_take 26 (some 144) (v := ?_) rfl rfl (by kernel_rfl) (by kernel_rfl) (by kernel_rfl) (fun _ _ _ h => h) rfl hT (fun W _ => ?_) ?_
                          rotate_left
                          · (go_simp; try with_reducible rfl)
                          try simp only [Act.put, List.setIfInBounds_toArray, List.set_cons_zero, List.set_cons_succ]
                          refine dr_done (by kernel_rfl) ?_
                          go_wp2_with fail
                          go_roundw
                          case rel => exact ⟨k + 1, by omega, by go_num, own_keep hoy (Ch.refl [] wB).drew (by simp), hchy.drew⟩
                          case measure => simp [intOf]; omega
                        · obtain rfl : k = 64 := by omega
                          clear hlk hk
                          have hdE := hd2.nil hchy
                          have hcE := hc2.trans hchy (by simp)
                          go_wp2_with fail
                          go_roundw
                          case rel => exact ⟨i + 1, by omega, by go_num, hdE, hcE⟩
                          case measure => simp [intOf]; omega
                · have t8 : decide ((i : Int) < (k2 : Int)) = false := by simpa using hib
                  have hcb0 : True := trivial
                  have hN : newsOf lb keep torn q i = 0 := by simp [newsOf, show ¬ i < lb.length from by rw [HLB.out]; exact hib]
                  have hL : dz.read i = List.replicate (0) (lb.getD i 0) ++ List.replicate (64 - (0)) (oldOf la i) := by have h9 := Hz2.out i hlt; rw [hN] at h9; exact h9
                  have hll : (dz.read i).length = 64 := by rw [hL]; simp
                  have Ha := Hz1.out i hlt
                  rw [HGA.out] at hL
                  generalize hbi : lb.getD i 0 = bi at *
                  go_wp2_with fail
                  refine (read_any b g m [] dz i wA hd Ha).mono ?_
                  rintro e w2 ⟨v2, rfl, ho2, hcr⟩
                  obtain ⟨yb, yc, rfl, hyb, hyl, hrow2⟩ := ho2.get (by rw [hll]; omega)
                  rw [hll] at hrow2
                  rw [hll]
                  have hd2 := hd.nil hcr
                  have hc2 := hch.trans hcr (by simp)
                  have HN := Lib.hid hN
                  have HL := Lib.hid hL
                  have HLL := Lib.hid hll
                  clear ho2 hN hL hll Ha
                  generalize hLe : dz.read i = L at *
                  have hL := HL.out
                  clear HL
                  have HL := Lib.hid hL
                  clear hL
                  go_wp2_with fail
                  clear hcb0
                  go_loopw [19] (fun j wr => ∃ k : Nat, k ≤ 64 ∧ j = .int .i64 k ∧ wr.ownsRow wA.heap.size 5 1 (.slice (some ⟨yb, 0, none⟩) 64 yc) 64 (bvs L) ∧ Ch [] w2 wr) (fun j _ => 64 - (intOf j).toNat)
                  case atStart => exact ⟨0, by omega, rfl, hrow2, Ch.refl _ _⟩
                  case round =>
                    clear hrow2
                    obtain ⟨k, hk, rfl, hoy, hchy⟩ := hrel
                    obtain ⟨wB, hwB⟩ : ∃ W, W = wr := ⟨_, rfl⟩
                    subst hwB
                    by_cases hlk : k < 64
                    · have hk64 : (k : Int) < 64 := by omega
                      have hk00 : (0 : Int) ≤ (k : Int) := by omega
                      have t1 : decide ((k : Int) < 0) = false := by simp
                      have t2 : decide ((k : Int) ≥ 0) = true := by simp
                      have t3 : decide ((0 : Int) ≤ (k : Int)) = true := by simp
                      have hcy := row_byte hoy k 0 (sec_old HL.out k (by omega) hlk)
                      rw [show ((0 : Nat) : Int) = 0 from rfl] at hcy
                      go_wp2_with fail
                      refine dr_begin (by kernel_rfl) ?_
                      refine dr_more (fun W => W.cell? ⟨yb, k, none⟩ = some (.int .u8 0) ∧ True) ?_
                      have hT : True ∧ (wB.drew.cell? ⟨yb, k, none⟩ = some (.int .u8 0) ∧ True) := ⟨trivial, hcy, trivial⟩
                      refine dr_take 0 (some 118) (v := ?_) rfl rfl (by kernel_rfl) (by kernel_rfl) (by kernel_rfl) (fun _ _ _ h => h) rfl hT (fun W _ => ?_) ?_
                      rotate_left
                      · (go_simp; try with_reducible rfl)
                      try simp only [Act.put, List.setIfInBounds_toArray, List.set_cons_zero, List.set_cons_succ]
                      refine dr_take 1 (some 119) (v := ?_) rfl rfl (by kernel_rfl) (by kernel_rfl) (by kernel_rfl) (fun _ _ _ h => h) rfl hT (fun W _ => ?_) ?_
                      rotate_left
                      · (go_simp; try with_reducible rfl)
                      try simp only [Act.put, List.setIfInBounds_toArray, List.set_cons_zero, List.set_cons_succ]
                      refine dr_take 2 (some 120) (v := ?_) rfl rfl (by kernel_rfl) (by kernel_rfl) (by kernel_rfl) (fun _ _ _ h => h) rfl hT (fun W _ => ?_) ?_
                      rotate_left
                      · (go_simp; try with_reducible rfl)
                      try simp only [Act.put, List.setIfInBounds_toArray, List.set_cons_zero, List.set_cons_succ]
                      refine dr_take 3 (some 121) (v := ?_) rfl rfl (by kernel_rfl) (by kernel_rfl) (by kernel_rfl) (fun _ _ _ h => h) rfl hT (fun W _ => ?_) ?_
                      rotate_left
                      · (go_simp; try with_reducible rfl)
                      try simp only [Act.put, List.setIfInBounds_toArray, List.set_cons_zero, List.set_cons_succ]
                      refine dr_skip 4 (some 122) rfl rfl (by kernel_rfl) (by kernel_rfl) (by kernel_rfl) (fun _ _ _ h => h) rfl hT ?_
                      try simp only [Act.put, List.setIfInBounds_toArray, List.set_cons_zero, List.set_cons_succ]
                      refine dr_skip 5 (some 123) rfl rfl (by kernel_rfl) (by kernel_rfl) (by kernel_rfl) (fun _ _ _ h => h) rfl hT ?_
                      try simp only [Act.put, List.setIfInBounds_toArray, List.set_cons_zero, List.set_cons_succ]
                      refine dr_skip 6 (some 124) rfl rfl (by kernel_rfl) (by kernel_rfl) (by kernel_rfl) (fun _ _ _ h => h) rfl hT ?_
                      try simp only [Act.put, List.setIfInBounds_toArray, List.set_cons_zero, List.set_cons_succ]
                      refine dr_skip 7 (some 125) rfl rfl (by kernel_rfl) (by kernel_rfl) (by kernel_rfl) (fun _ _ _ h => h) rfl hT ?_
                      try simp only [Act.put, List.setIfInBounds_toArray, List.set_cons_zero, List.set_cons_succ]
                      refine dr_skip 8 (some 126) rfl rfl (by kernel_rfl) (by kernel_rfl) (by kernel_rfl) (fun _ _ _ h => h) rfl hT ?_
                      try simp only [Act.put, List.setIfInBounds_toArray, List.set_cons_zero, List.set_cons_succ]
                      refine dr_skip 9 (some 127) rfl rfl (by kernel_rfl) (by kernel_rfl) (by kernel_rfl) (fun _ _ _ h => h) rfl hT ?_
                      try simp only [Act.put, List.setIfInBounds_toArray, List.set_cons_zero, List.set_cons_succ]
                      refine dr_skip 10 (some 128) rfl rfl (by kernel_rfl) (by kernel_rfl) (by kernel_rfl) (fun _ _ _ h => h) rfl hT ?_
                      try simp only [Act.put, List.setIfInBounds_toArray, List.set_cons_zero, List.set_cons_succ]
                      refine dr_skip 11 (some 129) rfl rfl (by kernel_rfl) (by kernel_rfl) (by kernel_rfl) (fun _ _ _ h => h) rfl hT ?_
                      try simp only [Act.put, List.setIfInBounds_toArray, List.set_cons_zero, List.set_cons_succ]
                      refine dr_skip 12 (some 130) rfl rfl (by kernel_rfl) (by kernel_rfl) (by kernel_rfl) (fun _ _ _ h => h) rfl hT ?_
                      try simp only [Act.put, List.setIfInBounds_toArray, List.set_cons_zero, List.set_cons_succ]
                      refine dr_take 13 (some 131) (v := ?_) rfl rfl (by kernel_rfl) (by kernel_rfl) (by kernel_rfl) (fun _ _ _ h => h) rfl hT (fun W _ => ?_) ?_
                      rotate_left
                      · (go_simp; try with_reducible rfl)
                      try simp only [Act.put, List.setIfInBounds_toArray, List.set_cons_zero, List.set_cons_succ]
                      refine dr_take 14 (some 132) (v := ?_) rfl rfl (by kernel_rfl) (by kernel_rfl) (by kernel_rfl) (fun _ _ _ h => h) rfl hT (fun W _ => ?_) ?_
                      rotate_left
                      · (go_simp; try with_reducible rfl)
                      try simp only [Act.put, List.setIfInBounds_toArray, List.set_cons_zero, List.set_cons_succ]
                      refine dr_take 15 (some 133) (v := ?_) rfl rfl (by kernel_rfl) (by kernel_rfl) (by kernel_rfl) (fun _ _ _ h => h) rfl hT (fun W _ => ?_) ?_
                      rotate_left
                      · (go_simp; try with_reducible rfl)
                      try simp only [Act.put, List.setIfInBounds_toArray, List.set_cons_zero, List.set_cons_succ]
                      refine dr_take 16 (some 134) (v := ?_) rfl rfl (by kernel_rfl) (by kernel_rfl) (by kernel_rfl) (fun _ _ _ h => h) rfl hT (fun W _ => ?_) ?_
                      rotate_left
                      · (go_simp; try with_reducible rfl)
                      try simp only [Act.put, List.setIfInBounds_toArray, List.set_cons_zero, List.set_cons_succ]
                      refine dr_take 17 (some 135) (v := ?_) rfl rfl (by kernel_rfl) (by kernel_rfl) (by kernel_rfl) (fun _ _ _ h => h) rfl hT (fun W _ => ?_) ?_
                      rotate_left
                      · (go_simp; try with_reducible rfl)
                      try simp only [Act.put, List.setIfInBounds_toArray, List.set_cons_zero, List.set_cons_succ]
                      refine dr_take 18 (some 136) (v := ?_) rfl rfl (by kernel_rfl) (by kernel_rfl) (by kernel_rfl) (fun _ _ _ h => h) rfl hT (fun W _ => ?_) ?_
                      rotate_left
                      · (go_simp; try with_reducible rfl)
                      try simp only [Act.put, List.setIfInBounds_toArray, List.set_cons_zero, List.set_cons_succ]
                      refine dr_take 19 (some 137) (v := ?_) rfl rfl (by kernel_rfl) (by kernel_rfl) (by kernel_rfl) (fun _ _ _ h => h) rfl hT (fun W _ => ?_) ?_
                      rotate_left
                      · (go_simp; try with_reducible rfl)
                      try simp only [Act.put, List.setIfInBounds_toArray, List.set_cons_zero, List.set_cons_succ]
                      refine dr_take 20 (some 138) (v := ?_) rfl rfl (by kernel_rfl) (by kernel_rfl) (by kernel_rfl) (fun _ _ _ h => h) rfl hT (fun W _ => ?_) ?_
                      rotate_left
                      · (go_simp; try with_reducible rfl)
                      try simp only [Act.put, List.setIfInBounds_toArray, List.set_cons_zero, List.set_cons_succ]
                      refine dr_take 21 (some 139) (v := ?_) rfl rfl (by kernel_rfl) (by kernel_rfl) (by kernel_rfl) (fun _ _ _ h => h) rfl hT (fun W _ => ?_) ?_
                      rotate_left
                      · (go_simp; try with_reducible rfl)
                      try simp only [Act.put, List.setIfInBounds_toArray, List.set_cons_zero, List.set_cons_succ]
                      refine dr_take 22 (some 140) (v := ?_) rfl rfl (by kernel_rfl) (by kernel_rfl) (by kernel_rfl) (fun _ _ _ h => h) rfl hT (fun W hW => ?_) ?_
                      rotate_left
                      · (have h1 := hW.2.1; go_simp; try with_reducible rfl)
                      try simp only [Act.put, List.setIfInBounds_toArray, List.set_cons_zero, List.set_cons_succ]
                      refine dr_take 23 (some 141) (v := ?_) rfl rfl (by kernel_rfl) (by kernel_rfl) (by kernel_rfl) (fun _ _ _ h => h) rfl hT (fun W _ => ?_) ?_
                      rotate_left
                      · (go_simp; try with_reducible rfl)
                      try simp only [Act.put, List.setIfInBounds_toArray, List.set_cons_zero, List.set_cons_succ]
                      refine dr_take 24 (some 142) (v := ?_) rfl rfl (by kernel_rfl) (by kernel_rfl) (by kernel_rfl) (fun _ _ _ h => h) rfl hT (fun W _ => ?_) ?_
                      rotate_left
                      · (go_simp; try with_reducible rfl)
                      try simp only [Act.put, List.setIfInBounds_toArray, List.set_cons_zero, List.set_cons_succ]
                      refine dr_take 25 (some 143) (v := ?_) rfl rfl (by kernel_rfl) (by kernel_rfl) (by kernel_rfl) (fun _ _ _ h => h) rfl hT (fun W _ => ?_) ?_
                      rotate_left
                      · (go_simp; try with_reducible rfl)
                      try simp only [Act.put, List.setIfInBounds_toArray, List.set_cons_zero, List.set_cons_succ]
                      refine dr_take 26 (some 144) (v := ?_) rfl rfl (by kernel_rfl) (by kernel_rfl) (by kernel_rfl) (fun _ _ _ h => h) rfl hT (fun W _ => ?_) ?_
                      rotate_left
                      · (go_simp; try with_reducible rfl)
                      try simp only [Act.put, List.setIfInBounds_toArray, List.set_cons_zero, List.set_cons_succ]
                      refine dr_done (by kernel_rfl) ?_
                      go_wp2_with fail
                      go_roundw
                      case rel => exact ⟨k + 1, by omega, by go_num, own_keep hoy (Ch.refl [] wB).drew (by simp), hchy.drew⟩
                      case measure => simp [intOf]; omega
                    · obtain rfl : k = 64 := by omega
                      clear hlk hk
                      have hdE := hd2.nil hchy
                      have hcE := hc2.trans hchy (by simp)
                      go_wp2_with fail
                      go_roundw
                      case rel => exact ⟨i + 1, by omega, by go_num, hdE, hcE⟩
                      case measure => simp [intOf]; omega
            · obtain rfl : i = 40 := by omega
              clear hlt hk
              go_wp2_with fail
              go_ret
              exact ⟨rfl, hch⟩

end Go.Proofs.Ytbkncfedahifkaa
