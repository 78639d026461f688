/-
  DiskCopies: true.
-/
import Derived.Test.YtbkncfedahifkaaDKnown
import Derived.Test.YtbkncfedahifkaaPlace
set_option linter.unusedVariables false
set_option linter.unusedSimpArgs false
namespace Go.Proofs.Ytbkncfedahifkaa
open Go.RowKit Go.Maps

/-- A block that is new is none of a disk's. -/
theorem IsDisk.fresh {w w' : World} {b g m x : Nat} {X : List Nat} {d : Dsk} (h : IsDisk w b g m X d) (hc : Ch [] w w') (hx : w.heap.size ≤ x) : IsDisk w' b g m (x :: X) d := (h.add hx).nil hc
theorem IsDisk.lts {w : World} {b g m : Nat} {X : List Nat} {d : Dsk} (h : IsDisk w b g m X d) : b < w.heap.size ∧ g < w.heap.size ∧ m < w.heap.size := by
  obtain ⟨c, vs, D, h⟩ := h
  exact ⟨h.blt, h.glt, h.mlt⟩
theorem u8_wrap (z : Int) : ∃ c : UInt8, IntKind.u8.wrap z = (c.toNat : Int) := by
  have h := IntKind.wrap_u8 z
  obtain ⟨c, _, hc⟩ := bv_of (IntKind.u8.wrap z) (by rw [h]; omega) (by rw [h]; omega)
  exact ⟨c, hc.symm⟩
theorem dead_at {d : Dsk} (h : d.dead = true) (i : Int) : d.at_ i = 32 := by simp [Dsk.at_, h]
theorem write_none {d : Dsk} (h : d.dead = false) (hc : d.cut = 0) (i : Nat) (hi : i < d.sure.length) (l : List UInt8) (hl : l.length = d.sz) : d.write i l = ({ d with dead := true }, 32) := by
  have ha : d.at_ i = 0 := by simp [Dsk.at_, h]; omega
  have hp : d.power = ({ d with dead := true }, false) := by simp [Dsk.power, hc]
  simp [Dsk.write, ha, hl, hp]
theorem write_last {d : Dsk} (h : d.dead = false) (hc : d.cut = 1) (i : Nat) (hi : i < d.sure.length) (l : List UInt8) (hl : l.length = d.sz) : d.write i l = (({ d with cut := 0 } : Dsk).put i l, 0) := by
  have ha : d.at_ i = 0 := by simp [Dsk.at_, h]; omega
  have hp : d.power = ({ d with cut := 0 }, true) := by simp [Dsk.power, hc]
  simp [Dsk.write, ha, hl, hp]
def cbytes (x : UInt8) : List UInt8 := (List.replicate 64 (0 : UInt8)).set 0 x
theorem Dsk.new_3 : Dsk.new (min (max (3 : Int) 1) 4096).toNat (min (max (64 : Int) 64) 4096).toNat = Dsk.new 3 64 := rfl

set_option maxRecDepth 100000 in
set_option maxHeartbeats 2000000 in
theorem disk_copies (x cut : Int) (w : World) (hx0 : 0 ≤ x) (hx1 : x ≤ 255) (hcut0 : -9223372036854775808 ≤ cut) (hcut1 : cut ≤ 9223372036854775807) :
    Calls Try.prog 12 #[.int .u8 x, .int .i64 cut] w fun e w' => e = .returned (.bool true) ∧ Ch [] w w' := by
  obtain ⟨xb, -, hxb⟩ := bv_of x hx0 (by omega)
  subst hxb
  have hpl := fun W => place_num cut 2 W hcut0 hcut1 (by omega) (by omega)
  rw [show ((2 : Nat) : Int) = 2 from rfl] at hpl
  have hP := Lib.hid hpl
  clear hpl
  go_enter Try.func12, Try.ntmps12
  go_wp2_with fail
  refine (known3 w).mono ?_
  rintro e w0 ⟨rfl, hc0⟩
  have hn := new_any 3 64 [] w0 (by simp)
  rw [Dsk.new_3] at hn
  go_wp2_with fail
  refine hn.mono ?_
  rintro e w1 ⟨b, g, m, rfl, hb, hg, hm, hd1, hc1⟩
  clear hn
  obtain ⟨w2, hmk, how2, hc2⟩ := make_64 w1
  obtain ⟨hbl, hgl, hml⟩ := hd1.lts
  have f0 := how2.frozenAt 0
  have c0 := row_byte how2 0 0 (by simp)
  have hw3 := row_set how2 0 xb _ rfl
  have hc3 : Ch [] w1 (w2.setCell ⟨w1.heap.size, 0, none⟩ (.int .u8 (xb.toNat : Int))) := hc2.setCell _ _ (.inr (Nat.le_refl _))
  have hd3 := hd1.fresh hc3 (Nat.le_refl _)
  have hrd3 := own_rd hw3
  have hlen : (cbytes xb).length = 64 := rfl
  have hrd3 : RdB _ (some ⟨w1.heap.size, 0, none⟩) 64 64 (cbytes xb) := hrd3
  have hcw3 := (hc0.trans hc1 (by simp)).trans hc3 (by simp)
  have hxl : w1.heap.size < (w2.setCell ⟨w1.heap.size, 0, none⟩ (.int .u8 (xb.toNat : Int))).heap.size := own_lt hw3 _ rfl
  go_wp2_with fail
  generalize hw3e : w2.setCell ⟨w1.heap.size, 0, none⟩ (.int .u8 (xb.toNat : Int)) = w3 at *
  have hwr := write_any b g m _ _ ((1 : Nat) : Int) _ _ _ _ w3 hd3 (by simpa using hxl) hrd3
  rw [live_write (new_live 3 64) 1 (by simp [Dsk.new]) _ hlen, show ((1 : Nat) : Int) = 1 from rfl] at hwr
  clear hw3e c0 f0 how2 hmk hc2
  generalize hX : w1.heap.size = xx at *
  clear hX
  refine hwr.mono ?_
  rintro e w4 ⟨rfl, hd4, hc4⟩
  clear hwr
  have hs4 := hc4.size
  have hw4 := own_keep hw3 hc4 (by intro k hk; simp only [Value.ownBlock, Option.some.injEq] at hk; simp; omega)
  have f4 := hw4.frozenAt 0
  have c4 := row_byte hw4 0 xb.toNat (by simp)
  obtain ⟨xc, hxc⟩ := u8_wrap ((xb.toNat : Int) + 1)
  have hw5 := row_set hw4 0 xc _ rfl
  go_wp2_with fail
  have hd5 := hd4.keep ((Ch.refl [xx] w4).setCell ⟨xx, 0, none⟩ (.int .u8 (xc.toNat : Int)) (by simp))
  have hc5 : Ch [b, m, xx] w3 (w4.setCell ⟨xx, 0, none⟩ (.int .u8 (xc.toNat : Int))) := (hc4.mono (by simp)).setCell _ _ (by simp)
  have hs5 : w4.heap.size ≤ (w4.setCell ⟨xx, 0, none⟩ (.int .u8 (xc.toNat : Int))).heap.size := by simp
  have hrd5 : RdB _ (some ⟨xx, 0, none⟩) 64 64 (((List.replicate 64 0).set 0 xb).set 0 xc) := own_rd hw5
  generalize hbq : ((List.replicate 64 (0 : UInt8)).set 0 xb).set 0 xc = bq at *
  have hbql : bq.length = 64 := by rw [← hbq]; simp
  clear hbq
  generalize hw5e : w4.setCell ⟨xx, 0, none⟩ (.int .u8 (xc.toNat : Int)) = w5 at *
  clear hw5e c4 f4 hw4 hw3 hrd3 hxc hw5
  have hr1 : ((Dsk.new 3 64).put 1 (cbytes xb)).read 1 = cbytes xb := rfl
  have ha1 : ((Dsk.new 3 64).put 1 (cbytes xb)).at_ ((1 : Nat) : Int) = 0 := rfl
  have hl1 : ((Dsk.new 3 64).put 1 (cbytes xb)).sure.length = 3 ∧ ((Dsk.new 3 64).put 1 (cbytes xb)).sz = 64 ∧ ((Dsk.new 3 64).put 1 (cbytes xb)).dead = false := ⟨rfl, rfl, rfl⟩
  have hr0 : ((Dsk.new 3 64).put 1 (cbytes xb)).read 0 = List.replicate 64 0 := rfl
  generalize hd1e : (Dsk.new 3 64).put 1 (cbytes xb) = d1 at *
  clear hd1e hd4
  have hy0 : ((cbytes xb)[0]?).map (·.toNat) = some xb.toNat := rfl
  refine (read_any b g m [xx] d1 1 w5 hd5 ha1).mono ?_
  rintro e w6 ⟨v6, rfl, ho6, hc6⟩
  rw [hr1] at ho6
  obtain ⟨yb, yc, rfl, hyb, hyl, hrow6⟩ := ho6.get (by rw [hlen]; omega)
  rw [hlen] at hrow6
  rw [hlen]
  have hd6 := hd5.fresh hc6 hyb
  have hrd6 := hrd5.keep hc6 (by simp)
  have f6 := hrow6.frozenAt 0
  have c6 := row_byte hrow6 0 xb.toNat hy0
  obtain ⟨xd, hxd⟩ := u8_wrap ((xb.toNat : Int) + 1)
  have hs6 := hc6.size
  clear ho6
  go_wp2_with fail
  have hd7 := hd6.keep ((Ch.refl [yb, xx] w6).setCell ⟨yb, 0, none⟩ (.int .u8 (xd.toNat : Int)) (by simp))
  have hc7 : Ch [] w5 (w6.setCell ⟨yb, 0, none⟩ (.int .u8 (xd.toNat : Int))) := hc6.setCell _ _ (.inr hyb)
  have hrd7 := hrd5.keep hc7 (by simp)
  have hs7 : w6.heap.size ≤ (w6.setCell ⟨yb, 0, none⟩ (.int .u8 (xd.toNat : Int))).heap.size := by simp
  generalize hw7e : w6.setCell ⟨yb, 0, none⟩ (.int .u8 (xd.toNat : Int)) = w7 at *
  clear hw7e f6 c6 hxd hrow6
  have hs3 := hc3.size
  have hs01 := hc1.size
  have hcw7 : Ch [] w w7 := (hcw3.trans hc5 (by have := hcw3.size; have := hc0.size; intro y hy; simp only [List.mem_cons, List.not_mem_nil, or_false] at hy; right; omega)).trans hc7 (by simp)
  refine (hP.out _).mono ?_
  rintro e w' ⟨rfl, rfl⟩
  have hm2 : cut % 2 = 0 ∨ cut % 2 = 1 := by omega
  have hcl : cut % 2 ≤ 9223372036854775807 := by omega
  have hmx : max (cut % 2) 0 = cut % 2 := by omega
  have hct := cut_any b g m _ d1 (cut % 2) w7 hcl hd7
  rw [hmx] at hct
  clear hmx hcl
  have HM := Lib.hid hm2
  clear hm2
  generalize hpe : cut % 2 = p at *
  have HP := Lib.hid hpe
  clear hpe
  go_wp2_with fail
  refine hct.mono ?_
  rintro e w8 ⟨rfl, hd8, hc8⟩
  have hs8 := hc8.size
  go_wp2_with fail
  refine (copy_any b g m _ _ w8 hd8 (by intro y hy; simp at hy; omega)).mono ?_
  rintro e w9 ⟨bc, gc, mc, rfl, hbc, hgc, hmc, hdc9, hdo9, hc9⟩
  have hrd9 := (hrd7.keep hc8 (by simp; omega)).keep hc9 (by simp)
  have hs9 := hc9.size
  have hl9 := hdc9.lts
  clear hct hd8
  have ht0 : ((0 : Int) == 0) = true := rfl
  have hcw9 : Ch [] w w9 := (hcw7.trans hc8 (by have := hcw3.size; have := hc0.size; intro y hy; simp only [List.mem_cons, List.not_mem_nil, or_false] at hy; right; omega)).trans hc9 (by simp)
  rcases HM.out with hp0 | hp1
  · have hP0 : ∀ W, Calls Try.prog 40 #[.int .i64 cut, .int .i64 2] W fun e w' => e = .returned (.int .i64 0) ∧ W = w' := by
      intro W
      have := hP.out W
      rw [hp0] at this
      exact this
    have HP0 := Lib.hid hP0
    clear hP0
    have e1 := write_none (d := { d1 with cut := p }) hl1.2.2 hp0 2 (by show 2 < d1.sure.length; omega) bq (by rw [hbql]; exact hl1.2.1.symm)
    have e2 := write_none (d := { d1 with cut := p }) hl1.2.2 hp0 0 (by show 0 < d1.sure.length; omega) bq (by rw [hbql]; exact hl1.2.1.symm)
    have hwr1 := write_any b g m _ _ ((2 : Nat) : Int) _ _ _ _ w9 hdo9 (by intro y hy; simp at hy; omega) hrd9
    rw [e1, show ((2 : Nat) : Int) = 2 from rfl] at hwr1
    clear hp0 e1
    go_wp2_with fail
    refine hwr1.mono ?_
    rintro e wa ⟨rfl, hda, hca⟩
    have hdca := hdc9.keep (hca.mono (by simp))
    have hsa := hca.size
    have hrda := hrd9.keep hca (by simp; omega)
    have hwr2 := write_any bc gc mc _ _ ((0 : Nat) : Int) _ _ _ _ wa hdca (by intro y hy; simp at hy; omega) hrda
    rw [e2, show ((0 : Nat) : Int) = 0 from rfl] at hwr2
    clear e2 hwr1
    go_wp2_with fail
    refine hwr2.mono ?_
    rintro e wb ⟨rfl, hdb, hcb⟩
    have hrb := read_bad bc gc mc _ _ 1 wb hdb (by rw [dead_at rfl]; omega)
    rw [dead_at rfl] at hrb
    go_wp2_with fail
    refine hrb.mono ?_
    rintro e w' ⟨rfl, rfl⟩
    go_wp2_with fail
    refine (HP0.out _).mono ?_
    rintro e w' ⟨rfl, rfl⟩
    go_wp2_with fail
    go_ret
    refine ⟨rfl, (hcw9.trans hca ?_).trans hcb ?_⟩
    · have := hcw3.size; have := hc0.size; intro y hy; simp only [List.mem_cons, List.not_mem_nil, or_false] at hy; right; omega
    · have := hcw9.size; have := hcw7.size; have := hcw3.size; have := hc0.size; intro y hy; simp only [List.mem_cons, List.not_mem_nil, or_false] at hy; right; omega
  · have hP1 : ∀ W, Calls Try.prog 40 #[.int .i64 cut, .int .i64 2] W fun e w' => e = .returned (.int .i64 1) ∧ W = w' := by
      intro W
      have := hP.out W
      rw [hp1] at this
      exact this
    have HP1 := Lib.hid hP1
    clear hP1
    have e1 := write_last (d := { d1 with cut := p }) hl1.2.2 hp1 2 (by show 2 < d1.sure.length; omega) bq (by rw [hbql]; exact hl1.2.1.symm)
    have e2 := write_last (d := { d1 with cut := p }) hl1.2.2 hp1 0 (by show 0 < d1.sure.length; omega) bq (by rw [hbql]; exact hl1.2.1.symm)
    have hwr1 := write_any b g m _ _ ((2 : Nat) : Int) _ _ _ _ w9 hdo9 (by intro y hy; simp at hy; omega) hrd9
    rw [e1, show ((2 : Nat) : Int) = 2 from rfl] at hwr1
    clear hp1 e1
    go_wp2_with fail
    refine hwr1.mono ?_
    rintro e wa ⟨rfl, hda, hca⟩
    have hdca := hdc9.keep (hca.mono (by simp))
    have hsa := hca.size
    have hrda := hrd9.keep hca (by simp; omega)
    have hwr2 := write_any bc gc mc _ _ ((0 : Nat) : Int) _ _ _ _ wa hdca (by intro y hy; simp at hy; omega) hrda
    rw [e2, show ((0 : Nat) : Int) = 0 from rfl] at hwr2
    clear e2 hwr1
    go_wp2_with fail
    refine hwr2.mono ?_
    rintro e wb ⟨rfl, hdb, hcb⟩
    have hda2 := hda.keep (hcb.mono (by simp))
    have hsb := hcb.size
    have r1 : (Dsk.put { d1 with cut := 0 } 0 bq).read 1 = cbytes xb := by rw [put_read, if_neg (by omega)]; exact hr1
    have r0 : (Dsk.put { d1 with cut := 0 } 2 bq).read 0 = List.replicate 64 0 := by rw [put_read, if_neg (by omega)]; exact hr0
    have a1 : (Dsk.put { d1 with cut := 0 } 0 bq).at_ ((1 : Nat) : Int) = 0 := by
      have h1 : (Dsk.put { d1 with cut := 0 } 0 bq).dead = false := hl1.2.2
      have h2 : (Dsk.put { d1 with cut := 0 } 0 bq).sure.length = 3 := hl1.1
      simp [Dsk.at_, h1, h2]
    have a0 : (Dsk.put { d1 with cut := 0 } 2 bq).at_ ((0 : Nat) : Int) = 0 := by
      have h1 : (Dsk.put { d1 with cut := 0 } 2 bq).dead = false := hl1.2.2
      have h2 : (Dsk.put { d1 with cut := 0 } 2 bq).sure.length = 3 := hl1.1
      simp [Dsk.at_, h1, h2]
    go_wp2_with fail
    refine (read_any bc gc mc _ _ 1 wb hdb a1).mono ?_
    rintro e wc ⟨vc, rfl, hoc, hcc⟩
    rw [r1] at hoc
    obtain ⟨zb, zc, rfl, hzb, hzl, hrowz⟩ := hoc.get (by rw [hlen]; omega)
    rw [hlen] at hrowz
    rw [hlen]
    have hdac := hda2.nil hcc
    clear hoc
    go_wp2_with fail
    refine (HP1.out _).mono ?_
    rintro e w' ⟨rfl, rfl⟩
    go_wp2_with fail
    refine (read_any b g m _ _ 0 wc hdac a0).mono ?_
    rintro e we ⟨ve, rfl, hoe, hce⟩
    have hz64 : (List.replicate 64 (0 : UInt8)).length = 64 := rfl
    rw [r0] at hoe
    obtain ⟨ub, uc, rfl, hub, hul, hrowu⟩ := hoe.get (by rw [hz64]; omega)
    rw [hz64] at hrowu
    rw [hz64]
    clear hoe
    have hcellz := hce.cell (row_byte hrowz 0 xb.toNat hy0) (by simp)
    have hrdu : RdB we (some ⟨ub, 0, none⟩) 64 uc (List.replicate 64 0) := own_rd hrowu
    have mkT : ∀ W, Ch [] we W → True ∧ (W.cell? ⟨zb, 0, none⟩ = some (.int .u8 (xb.toNat : Int)) ∧ RdB W (some ⟨ub, 0, none⟩) 64 uc (List.replicate 64 0)) := fun W hW => ⟨trivial, hW.cell hcellz (by simp), hrdu.keep hW (by simp)⟩
    have MK := Lib.hid mkT
    obtain ⟨wf, hmkf, howf, hcf⟩ := make_64 we.drew
    have hcmk : Ch [] we wf := (Ch.refl _ _).drew.trans hcf (by simp)
    have hconv : (convert 28 9 (.slice (some ⟨we.heap.size, 0, none⟩) 64 64)).run Try.prog wf = .ok (.string (str (List.replicate 64 0))) wf := conv_str (own_rd howf) 28 5 9 Try.underlying28 Try.underlying5 Try.underlying9
    have hq1 : binOp .eql 9 (.string (str (List.replicate 64 0))) (.string (str (List.replicate 64 0))) = pure (.bool true) := eql_str_yes _ _
    have hfin : Ch [] w wf := by
      refine (((hcw9.trans hca ?_).trans hcb ?_).trans hcc (by simp)).trans (hce.trans hcmk (by simp)) (by simp)
      · have := hcw3.size; have := hc0.size; intro y hy; simp only [List.mem_cons, List.not_mem_nil, or_false] at hy; right; omega
      · have := hcw9.size; have := hcw7.size; have := hcw3.size; have := hc0.size; intro y hy; simp only [List.mem_cons, List.not_mem_nil, or_false] at hy; right; omega
    clear mkT hcellz hrdu howf hrowu hrowz r0 r1 a0 a1
    go_wp2_with fail
    refine dr_begin (by kernel_rfl) ?_
    refine dr_more (fun W => W.cell? ⟨zb, 0, none⟩ = some (.int .u8 (xb.toNat : Int)) ∧ RdB W (some ⟨ub, 0, none⟩) 64 uc (List.replicate 64 0)) ?_
    have hT := MK.out we.drew (Ch.refl _ _).drew
    refine dr_take 0 (some 88) (v := ?_) rfl rfl (by kernel_rfl) (by kernel_rfl) (by kernel_rfl) (fun _ _ _ h => h) rfl hT (fun W _ => ?_) ?_
    rotate_left
    · (go_simp; try with_reducible rfl)
    try simp only [Act.put, List.setIfInBounds_toArray, List.set_cons_zero, List.set_cons_succ]
    refine dr_take 1 (some 89) (v := ?_) rfl rfl (by kernel_rfl) (by kernel_rfl) (by kernel_rfl) (fun _ _ _ h => h) rfl hT (fun W _ => ?_) ?_
    rotate_left
    · (go_simp; try with_reducible rfl)
    try simp only [Act.put, List.setIfInBounds_toArray, List.set_cons_zero, List.set_cons_succ]
    refine dr_take 2 (some 90) (v := ?_) rfl rfl (by kernel_rfl) (by kernel_rfl) (by kernel_rfl) (fun _ _ _ h => h) rfl hT (fun W _ => ?_) ?_
    rotate_left
    · (go_simp; try with_reducible rfl)
    try simp only [Act.put, List.setIfInBounds_toArray, List.set_cons_zero, List.set_cons_succ]
    refine dr_take 3 (some 91) (v := ?_) rfl rfl (by kernel_rfl) (by kernel_rfl) (by kernel_rfl) (fun _ _ _ h => h) rfl hT (fun W _ => ?_) ?_
    rotate_left
    · (go_simp; try with_reducible rfl)
    try simp only [Act.put, List.setIfInBounds_toArray, List.set_cons_zero, List.set_cons_succ]
    refine dr_take 4 (some 92) (v := ?_) rfl rfl (by kernel_rfl) (by kernel_rfl) (by kernel_rfl) (fun _ _ _ h => h) rfl hT (fun W _ => ?_) ?_
    rotate_left
    · (go_simp; try with_reducible rfl)
    try simp only [Act.put, List.setIfInBounds_toArray, List.set_cons_zero, List.set_cons_succ]
    refine dr_take 5 (some 93) (v := ?_) rfl rfl (by kernel_rfl) (by kernel_rfl) (by kernel_rfl) (fun _ _ _ h => h) rfl hT (fun W _ => ?_) ?_
    rotate_left
    · (go_simp; try with_reducible rfl)
    try simp only [Act.put, List.setIfInBounds_toArray, List.set_cons_zero, List.set_cons_succ]
    refine dr_take 6 (some 94) (v := ?_) rfl rfl (by kernel_rfl) (by kernel_rfl) (by kernel_rfl) (fun _ _ _ h => h) rfl hT (fun W _ => ?_) ?_
    rotate_left
    · (go_simp; try with_reducible rfl)
    try simp only [Act.put, List.setIfInBounds_toArray, List.set_cons_zero, List.set_cons_succ]
    refine dr_take 7 (some 95) (v := ?_) rfl rfl (by kernel_rfl) (by kernel_rfl) (by kernel_rfl) (fun _ _ _ h => h) rfl hT (fun W _ => ?_) ?_
    rotate_left
    · (go_simp; try with_reducible rfl)
    try simp only [Act.put, List.setIfInBounds_toArray, List.set_cons_zero, List.set_cons_succ]
    refine dr_take 8 (some 96) (v := ?_) rfl rfl (by kernel_rfl) (by kernel_rfl) (by kernel_rfl) (fun _ _ _ h => h) rfl hT (fun W _ => ?_) ?_
    rotate_left
    · (go_simp; try with_reducible rfl)
    try simp only [Act.put, List.setIfInBounds_toArray, List.set_cons_zero, List.set_cons_succ]
    refine dr_take 9 (some 97) (v := ?_) rfl rfl (by kernel_rfl) (by kernel_rfl) (by kernel_rfl) (fun _ _ _ h => h) rfl hT (fun W _ => ?_) ?_
    rotate_left
    · (go_simp; try with_reducible rfl)
    try simp only [Act.put, List.setIfInBounds_toArray, List.set_cons_zero, List.set_cons_succ]
    refine dr_take 10 (some 98) (v := ?_) rfl rfl (by kernel_rfl) (by kernel_rfl) (by kernel_rfl) (fun _ _ _ h => h) rfl hT (fun W _ => ?_) ?_
    rotate_left
    · (go_simp; try with_reducible rfl)
    try simp only [Act.put, List.setIfInBounds_toArray, List.set_cons_zero, List.set_cons_succ]
    refine dr_take 11 (some 99) (v := ?_) rfl rfl (by kernel_rfl) (by kernel_rfl) (by kernel_rfl) (fun _ _ _ h => h) rfl hT (fun W _ => ?_) ?_
    rotate_left
    · (go_simp; try with_reducible rfl)
    try simp only [Act.put, List.setIfInBounds_toArray, List.set_cons_zero, List.set_cons_succ]
    refine dr_take 12 (some 100) (v := ?_) rfl rfl (by kernel_rfl) (by kernel_rfl) (by kernel_rfl) (fun _ _ _ h => h) rfl hT (fun W _ => ?_) ?_
    rotate_left
    · (go_simp; try with_reducible rfl)
    try simp only [Act.put, List.setIfInBounds_toArray, List.set_cons_zero, List.set_cons_succ]
    refine dr_take 13 (some 101) (v := ?_) rfl rfl (by kernel_rfl) (by kernel_rfl) (by kernel_rfl) (fun _ _ _ h => h) rfl hT (fun W _ => ?_) ?_
    rotate_left
    · (go_simp; try with_reducible rfl)
    try simp only [Act.put, List.setIfInBounds_toArray, List.set_cons_zero, List.set_cons_succ]
    refine dr_take 14 (some 102) (v := ?_) rfl rfl (by kernel_rfl) (by kernel_rfl) (by kernel_rfl) (fun _ _ _ h => h) rfl hT (fun W _ => ?_) ?_
    rotate_left
    · (go_simp; try with_reducible rfl)
    try simp only [Act.put, List.setIfInBounds_toArray, List.set_cons_zero, List.set_cons_succ]
    refine dr_take 15 (some 103) (v := ?_) rfl rfl (by kernel_rfl) (by kernel_rfl) (by kernel_rfl) (fun _ _ _ h => h) rfl hT (fun W _ => ?_) ?_
    rotate_left
    · (go_simp; try with_reducible rfl)
    try simp only [Act.put, List.setIfInBounds_toArray, List.set_cons_zero, List.set_cons_succ]
    refine dr_take 16 (some 104) (v := ?_) rfl rfl (by kernel_rfl) (by kernel_rfl) (by kernel_rfl) (fun _ _ _ h => h) rfl hT (fun W hW => ?_) ?_
    rotate_left
    · (have h1 := hW.2.1; go_simp; try with_reducible rfl)
    try simp only [Act.put, List.setIfInBounds_toArray, List.set_cons_zero, List.set_cons_succ]
    refine dr_take 17 (some 105) (v := ?_) rfl rfl (by kernel_rfl) (by kernel_rfl) (by kernel_rfl) (fun _ _ _ h => h) rfl hT (fun W _ => ?_) ?_
    rotate_left
    · (go_simp; try with_reducible rfl)
    try simp only [Act.put, List.setIfInBounds_toArray, List.set_cons_zero, List.set_cons_succ]
    refine dr_take 18 (some 106) (v := ?_) rfl rfl (by kernel_rfl) (by kernel_rfl) (by kernel_rfl) (fun _ _ _ h => h) rfl hT (fun W _ => ?_) ?_
    rotate_left
    · (go_simp; try with_reducible rfl)
    try simp only [Act.put, List.setIfInBounds_toArray, List.set_cons_zero, List.set_cons_succ]
    refine dr_take 19 (some 107) (v := ?_) rfl rfl (by kernel_rfl) (by kernel_rfl) (by kernel_rfl) (fun _ _ _ h => h) rfl hT (fun W _ => ?_) ?_
    rotate_left
    · (go_simp; try with_reducible rfl)
    try simp only [Act.put, List.setIfInBounds_toArray, List.set_cons_zero, List.set_cons_succ]
    refine dr_take 20 (some 108) (v := ?_) rfl rfl (by kernel_rfl) (by kernel_rfl) (by kernel_rfl) (fun _ _ _ h => h) rfl hT (fun W _ => ?_) ?_
    rotate_left
    · (go_simp; try with_reducible rfl)
    try simp only [Act.put, List.setIfInBounds_toArray, List.set_cons_zero, List.set_cons_succ]
    refine dr_take 21 (some 109) (v := ?_) rfl rfl (by kernel_rfl) (by kernel_rfl) (by kernel_rfl) (fun _ _ _ h => h) rfl hT (fun W _ => ?_) ?_
    rotate_left
    · (go_simp; try with_reducible rfl)
    try simp only [Act.put, List.setIfInBounds_toArray, List.set_cons_zero, List.set_cons_succ]
    refine dr_take 22 (some 110) (v := ?_) rfl rfl (by kernel_rfl) (by kernel_rfl) (by kernel_rfl) (fun _ _ _ h => h) rfl hT (fun W hW => ?_) ?_
    rotate_left
    · (have h1 := conv_str hW.2.2 28 5 9 Try.underlying28 Try.underlying5 Try.underlying9; go_simp; try with_reducible rfl)
    try simp only [Act.put, List.setIfInBounds_toArray, List.set_cons_zero, List.set_cons_succ]
    refine dr_step 23 rfl (by kernel_rfl) rfl (fun K hK => ?_)
    go_simp
    have hT := MK.out _ hcmk
    refine hK.out _ _ hT ?_
    clear hK K
    try simp only [Act.put, List.setIfInBounds_toArray, List.set_cons_zero, List.set_cons_succ]
    refine dr_step 24 rfl (by kernel_rfl) rfl (fun K hK => ?_)
    go_simp
    refine hK.out _ _ hT ?_
    clear hK K
    try simp only [Act.put, List.setIfInBounds_toArray, List.set_cons_zero, List.set_cons_succ]
    refine dr_take 25 (some 113) (v := ?_) rfl rfl (by kernel_rfl) (by kernel_rfl) (by kernel_rfl) (fun _ _ _ h => h) rfl hT (fun W _ => ?_) ?_
    rotate_left
    · (go_simp; try with_reducible rfl)
    try simp only [Act.put, List.setIfInBounds_toArray, List.set_cons_zero, List.set_cons_succ]
    refine dr_take 26 (some 114) (v := ?_) rfl rfl (by kernel_rfl) (by kernel_rfl) (by kernel_rfl) (fun _ _ _ h => h) rfl hT (fun W _ => ?_) ?_
    rotate_left
    · (go_simp; try with_reducible rfl)
    try simp only [Act.put, List.setIfInBounds_toArray, List.set_cons_zero, List.set_cons_succ]
    refine dr_take 27 (some 4) (v := ?_) rfl rfl (by kernel_rfl) (by kernel_rfl) (by kernel_rfl) (fun _ _ _ h => h) rfl hT (fun W _ => ?_) ?_
    rotate_left
    · (go_simp; try with_reducible rfl)
    try simp only [Act.put, List.setIfInBounds_toArray, List.set_cons_zero, List.set_cons_succ]
    refine dr_done (by kernel_rfl) ?_
    go_wp2_with fail
    go_ret
    exact ⟨rfl, hfin⟩

end Go.Proofs.Ytbkncfedahifkaa
