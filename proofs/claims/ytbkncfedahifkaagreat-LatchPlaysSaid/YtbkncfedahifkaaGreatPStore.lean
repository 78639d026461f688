/-
  Texts that stand in one: StSpec, StBytes, StPair, StChange, StStore, StOpen, StApply, StKeys, StSize, StStrings, StKnown, StPlain, StArgs.
-/
import Derived.Test.YtbkncfedahifkaaGreatPCode
import Derived.Test.YtbkncfedahifkaaGreatPWalB
import Derived.Maps.Own
import Derived.Maps.OwnSet
import Derived.Maps.Ext
import Derived.Test.YtbkncfedahifkaaGreatPDisk
import Derived.Maps.StringElems
import Derived.Sort.KeysCollected
import Derived.Maps.RangeWalk
import Derived.Sort.Walk0
import Derived.Laws.Cover1
/-
  Package store: pairs, their records, what they do to a map.
-/
set_option linter.unusedVariables false
set_option linter.unusedSimpArgs false
namespace Go.Proofs.YtbkncfedahifkaaGreat
open Go.RowKit Go.Maps

/-- A pair. -/
structure PairL where
  k : List UInt8
  v : List UInt8
  gone : Bool
def PairL.cells (p : PairL) : List Value := [.string (str p.k), .string (str p.v), .bool p.gone]
def PairL.val (p : PairL) : Value := .agg #[.string (str p.k), .string (str p.v), .bool p.gone]
def PairL.ok (p : PairL) : Prop := p.k.length ≤ 1000 ∧ p.v.length ≤ 1000
/-- As it is read back. -/
def PairL.bare (p : PairL) : PairL := ⟨p.k, if p.gone then [] else p.v, p.gone⟩
/-- A pair's record. -/
def encP (p : PairL) : List UInt8 := encB p.gone ++ encT p.k ++ (if p.gone then [] else encT p.v)
theorem encP_length {p : PairL} (h : p.ok) : (encP p).length ≤ 2021 := by
  have h1 := encT_len p.k (by have := h.1; omega)
  have h2 := encT_len p.v (by have := h.2; omega)
  have h3 := h.1
  have h4 := h.2
  have h5 : (encB p.gone).length = 1 := rfl
  unfold encP
  rw [List.length_append, List.length_append, h5]
  split
  · simp; omega
  · omega

abbrev Mp := DataW Value
def skey (k : List UInt8) : Lit := .string k
/-- What a pair does. -/
def chg (D : Mp) (p : PairL) : Mp := if p.gone then D.del (skey p.k) else D.put (skey p.k) (.lit (.string p.v))
def chgs (D : Mp) (ps : List PairL) : Mp := ps.foldl chg D
theorem chg_bare (D : Mp) (p : PairL) : chg D p.bare = chg D p := by
  unfold chg PairL.bare
  cases p.gone <;> rfl
theorem chgs_append (D : Mp) (ps qs : List PairL) : chgs D (ps ++ qs) = chgs (chgs D ps) qs := List.foldl_append
theorem chgs_snoc (D : Mp) (ps : List PairL) (p : PairL) : chgs D (ps ++ [p]) = chg (chgs D ps) p := by simp [chgs, List.foldl_append]

/-- A map in a block. -/
def IsM (w : World) (mb : Nat) (D : Mp) : Prop := w.ownsMap Tryz.prog 9 (plainElem Tryz.prog 9) mb (Maps.size D) D
theorem skeyed : Keyed Tryz.prog 9 := string_keyed Tryz.underlying9
theorem skey_mk (k : List UInt8) (h : k.length ≤ 1000000) : keyOf Tryz.prog 9 (.string (str k)) = some (skey k) := by
  have h2 : (⟨k.toArray⟩ : ByteArray).size ≤ maxLen := by
    show k.length ≤ maxLen
    unfold maxLen
    omega
  simp [keyOf, Tryz.underlying9, mapKey, Lit.wf, str, skey, h2]
theorem pl_str (v : List UInt8) (h : v.length ≤ 1000000) : plainElem (H := Value) Tryz.prog 9 (.string (str v)) = some (.lit (.string v), []) :=
  plainElem_string Tryz.underlying9 (s := str v) (by rw [str_size]; unfold maxLen; omega)
theorem IsM.of {w : World} {mb n : Nat} {D : Mp} (h : w.ownsMap Tryz.prog 9 (plainElem Tryz.prog 9) mb n D) : IsM w mb D := by
  obtain ⟨es, clock, hb, F, hs, hD⟩ := h
  refine ⟨es, clock, hb, F, ?_, hD⟩
  subst hD
  simp [Maps.size, length_sorted]

end Go.Proofs.YtbkncfedahifkaaGreat

/-
  Package store: bytes, pair.
-/
set_option linter.unusedVariables false
set_option linter.unusedSimpArgs false
namespace Go.Proofs.YtbkncfedahifkaaGreat
open Go.RowKit Go.Maps

theorem byt_one (k : List UInt8) : byt [str k] = [k] := by simp [byt, str]
set_option maxRecDepth 100000 in
set_option maxHeartbeats 1000000 in
theorem stbytes_any (p : PairL) (w : World) (hp : p.ok) :
    Calls Tryz.prog 51 #[p.val] w fun e w' => ∃ v, e = .returned v ∧ OwnB w.heap.size (encP p) w' v ∧ Ch [] w w' := by
  obtain ⟨k, v, gone⟩ := p
  obtain ⟨hk, hv⟩ := hp
  simp only at hk hv
  unfold PairL.val
  simp only
  go_enter Tryz.func51, Tryz.ntmps51
  go_wp2_with fail
  have hb0 := heap_alloc_new w (.cells #[.string (str k), .string (str v), .bool gone] 32)
  have hc0 : Ch [] w (w.alloc (.cells #[.string (str k), .string (str v), .bool gone] 32)) := (Ch.refl [] w).alloc _
  generalize w.alloc (.cells #[.string (str k), .string (str v), .bool gone] 32) = w0 at *
  generalize hx : w.heap.size = x at *
  have hX := Lib.hid hx
  clear hx
  have hs0 := hc0.size
  refine (new_wr w0).mono ?_
  rintro e w1 ⟨b, rfl, hw1, hb, hc1⟩
  have hb1 := hc1.at_ hb0 (by simp)
  have d0 := cell_at hb1 0 rfl
  have d2 := cell_at hb1 2 rfl
  go_wp2_with fail
  refine (wbool b none [] _ 1 1 [gone] _ (hw1.alloc _) (rd_one w1 (.bool gone) 4) (by simp) hw1.fresh).mono ?_
  rintro e w2 ⟨rfl, hst2⟩
  obtain ⟨o2, hw2, ho2, hc2⟩ := hst2.own hb (by simp) (hc1.alloc _)
  have e2 : ([] : List UInt8) ++ encs ([gone].map bnum) = encB gone := by rw [List.nil_append, List.map_cons, List.map_nil, encs_one, encB_num]; rfl
  rw [e2] at hw2
  have d0 := cell_at (hc2.at_ hb0 (by simp)) 0 rfl
  clear hst2 hw1 hc1 hb1 d2 e2
  have l2 : (encB gone).length = 1 := rfl
  go_wp2_with fail
  refine (wtext b o2 (encB gone) _ 1 1 [str k] _ (hw2.alloc _) (rd_one w2 (.string (str k)) 9) (by rw [byt_one]; simp [bulk, l2]; omega) hw2.fresh).mono ?_
  rintro e w3 ⟨rfl, hst3⟩
  obtain ⟨o3, hw3, ho3, hc3⟩ := hst3.own hb ho2 (hc2.alloc _)
  rw [byt_one, encTs_one] at hw3
  have d1 := cell_at (hc3.at_ hb0 (by simp)) 1 rfl
  have d2 := cell_at (hc3.at_ hb0 (by simp)) 2 rfl
  clear hst3 hw2 hc2 d0
  have l3 : (encB gone ++ encT k).length ≤ 1011 := by
    have := encT_len k (by omega)
    rw [List.length_append, l2]
    omega
  rcases gone with _ | _
  · go_wp2_with fail
    refine (wtext b o3 _ _ 1 1 [str v] _ (hw3.alloc _) (rd_one w3 (.string (str v)) 9) (by rw [byt_one]; simp only [bulk, List.map_cons, List.map_nil, List.sum_cons, List.sum_nil]; omega) hw3.fresh).mono ?_
    rintro e w4 ⟨rfl, hst4⟩
    obtain ⟨o4, hw4, ho4, hc4⟩ := hst4.own hb ho3 (hc3.alloc _)
    rw [byt_one, encTs_one] at hw4
    have l4 : (encB false ++ encT k ++ encT v).length ≤ 2021 := by
      have := encT_len v (by omega)
      rw [List.length_append]
      omega
    go_wp2_with fail
    refine (wbytes b o4 _ _ hw4 (by omega)).mono ?_
    rintro e w5 ⟨v5, rfl, hv5, hc5⟩
    go_wp2_with fail
    go_ret
    have hs4 := hc4.size
    refine ⟨v5, rfl, ?_, hc0.trans (hc4.trans hc5 (by simp)) (by simp)⟩
    obtain ⟨A5, c5, rfl, ho5⟩ := hv5
    exact ⟨A5, c5, rfl, own_rebase ho5 (fun y hy => by have := own_ge ho5 y hy; omega)⟩
  · go_wp2_with fail
    refine (wbytes b o3 _ _ hw3 (by omega)).mono ?_
    rintro e w5 ⟨v5, rfl, hv5, hc5⟩
    go_wp2_with fail
    go_ret
    have hs4 := hc3.size
    refine ⟨v5, rfl, ?_, hc0.trans (hc3.trans hc5 (by simp)) (by simp)⟩
    have e : encP ⟨k, v, true⟩ = encB true ++ encT k := by simp [encP]
    rw [e]
    obtain ⟨A5, c5, rfl, ho5⟩ := hv5
    exact ⟨A5, c5, rfl, own_rebase ho5 (fun y hy => by have := own_ge ho5 y hy; omega)⟩

end Go.Proofs.YtbkncfedahifkaaGreat

/-
  Package store: pair.
-/
set_option linter.unusedVariables false
set_option linter.unusedSimpArgs false
namespace Go.Proofs.YtbkncfedahifkaaGreat
open Go.RowKit Go.Maps

theorem rBool_enc (g : Bool) (r : List UInt8) : (some (encB g ++ r)).bind rBool = some (.bool g, r) := by simp [rBool, decB_encB]
theorem rText_enc (k r : List UInt8) (h : k.length ≤ 1000) : (some (encT k ++ r)).bind rText = some (.string (str k), r) := by
  simp [rText, decT_encT k r (by omega)]

set_option maxRecDepth 100000 in
set_option maxHeartbeats 1000000 in
theorem stpair_any (p : PairL) (A : Option Addr) (n c : Nat) (w : World) (hp : p.ok) (hr : RdB w A n c (encP p)) :
    Calls Tryz.prog 48 #[.slice A n c] w fun e w' => e = .returned (.tuple #[p.bare.val, .bool true]) ∧ Ch [] w w' := by
  have hlen := encP_length hp
  have hln := hr.length
  obtain ⟨k, v, gone⟩ := p
  obtain ⟨hk, hv⟩ := hp
  simp only at hk hv
  unfold PairL.val PairL.bare
  simp only
  go_enter Tryz.func48, Tryz.ntmps48
  go_wp2_with fail
  have hb0 := heap_alloc_new w (.cells #[.string ⟨#[]⟩, .string ⟨#[]⟩, .bool false] 32)
  have hc0 : Ch [] w (w.alloc (.cells #[.string ⟨#[]⟩, .string ⟨#[]⟩, .bool false] 32)) := (Ch.refl [] w).alloc _
  generalize w.alloc (.cells #[.string ⟨#[]⟩, .string ⟨#[]⟩, .bool false] 32) = w0 at *
  have hs0 := hc0.size
  have hx0 := lt_of_at hb0
  generalize hx : w.heap.size = x at *
  have hX := Lib.hid hx
  clear hx
  refine (new_reader A n c _ w0 (hr.keep hc0 (by simp)) (by omega)).mono ?_
  rintro e w1 ⟨b, g, rfl, hr1, hb, hg, hc1⟩
  go_wp2_with fail
  refine (rbool b g _ w1 hr1).mono ?_
  have e1 := rBool_enc gone (encT k ++ (if gone then [] else encT v))
  rw [← List.append_assoc] at e1
  have e1' : (some (encP ⟨k, v, gone⟩)).bind rBool = some (.bool gone, encT k ++ (if gone then [] else encT v)) := e1
  rw [e1']
  rintro e w2 ⟨rfl, hr2, hc2⟩
  simp only [ans, Option.map_some] at hr2 ⊢
  go_wp2_with fail
  refine (rtext b g _ w2 hr2).mono ?_
  rw [rText_enc k _ hk]
  rintro e w3 ⟨rfl, hr3, hc3⟩
  simp only [ans, Option.map_some] at hr3 ⊢
  clear e1 e1' hr1 hr2
  have hc03 : Ch [] w0 w3 := (hc1.trans hc2 (by simp; omega)).trans hc3 (by simp; omega)
  clear hc1 hc2 hc3
  have hs3 := hc03.size
  have hbl := hr3.lt
  have hgl := hr3.1
  rcases gone with _ | _
  · go_wp2_with fail
    have hb5 := heap_alloc_new w3 (.cells #[.string (str k), .string ⟨#[]⟩, .bool false] 32)
    have hc5 : Ch [] w3 (w3.alloc (.cells #[.string (str k), .string ⟨#[]⟩, .bool false] 32)) := (Ch.refl [] w3).alloc _
    generalize w3.alloc (.cells #[.string (str k), .string ⟨#[]⟩, .bool false] 32) = w4 at *
    generalize hy : w3.heap.size = y at *
    have hr4 := hr3.nil hc5
    have ert := rText_enc v [] hv
    rw [List.append_nil] at ert
    simp only [Bool.false_eq_true, if_false] at hr4
    refine (rtext b g _ w4 hr4).mono ?_
    rw [ert]
    rintro e w5 ⟨rfl, hr5, hc45⟩
    simp only [ans, Option.map_some] at hr5 ⊢
    have hb6 := hc45.at_ hb5 (by simp; omega)
    have f1 := free_at hb6 1
    have c1 := cell_at hb6 1 rfl
    have hcF : Ch [] w0 w5 := (hc03.trans hc5 (by simp)).trans hc45 (by simp; omega)
    go_wp2_with fail
    have hb7 := heap_setCell_same w5 y 1 _ 32 (.string (str v)) hb6
    have hc7 : Ch [y] w5 (w5.setCell ⟨y, 1, none⟩ (.string (str v))) := (Ch.refl [y] w5).setCell _ _ (by simp)
    have hcG : Ch [] w0 (w5.setCell ⟨y, 1, none⟩ (.string (str v))) := hcF.trans hc7 (by simp; omega)
    have hr7 := hr5.keep hc7 (by simp; omega) (by simp; omega)
    generalize w5.setCell ⟨y, 1, none⟩ (.string (str v)) = w6 at *
    clear hr5 hr4 hr3 hb6 hb5 f1 c1 hcF hc7 hc45 hc5 hc03 ert
    have hr8 := hr7.nil (Ch.refl [] w6).drew
    have hbx : w6.heap[x]? = some (.cells #[.string ⟨#[]⟩, .string ⟨#[]⟩, .bool false] 32 (0, 0)) := hcG.at_ hb0 (by simp)
    have q0 := free_at hbx 0
    have q1 := free_at hbx 1
    have q2 := free_at hbx 2
    have p0 := cell_at hbx 0 rfl
    have p1 := cell_at hbx 1 rfl
    have p2 := cell_at hbx 2 rfl
    have hcx : Ch [x] w6 (((w6.setCell ⟨x, 0, none⟩ (.string (str k))).setCell ⟨x, 1, none⟩ (.string (str v))).setCell ⟨x, 2, none⟩ (.bool false)) := (((Ch.refl [x] w6).setCell _ _ (by simp)).setCell _ _ (by simp)).setCell _ _ (by simp)
    have hbz := heap_setCell_same _ x 2 _ 32 (.bool false) (heap_setCell_same _ x 1 _ 32 (.string (str v)) (heap_setCell_same w6 x 0 _ 32 (.string (str k)) hbx))
    have hb8 := hcx.at_ hb7 (by simp; omega)
    have hcz : Ch [] w (((w6.setCell ⟨x, 0, none⟩ (.string (str k))).setCell ⟨x, 1, none⟩ (.string (str v))).setCell ⟨x, 2, none⟩ (.bool false)) := (hc0.trans hcG (by simp)).trans hcx (by have := hX.out; simp; omega)
    have z0 := cell_at hbz 0 rfl
    have z1 := cell_at hbz 1 rfl
    have z2 := cell_at hbz 2 rfl
    refine dr_begin (by kernel_rfl) ?_
    refine dr_more (fun W => W.heap[y]? = some (.cells #[.string (str k), .string (str v), .bool false] 32 (0, 0))) ?_
    have hT : True ∧ (w6.drew.heap[y]? = some (.cells #[.string (str k), .string (str v), .bool false] 32 (0, 0))) := ⟨trivial, hb7⟩
    refine dr_take 0 (some 19) (v := ?_) rfl rfl (by kernel_rfl) (by kernel_rfl) (by kernel_rfl) (fun _ _ _ h => h) rfl hT (fun W hW => ?_) ?_
    rotate_left
    · (have h0 := cell_at hW.2 0 rfl; have h1 := cell_at hW.2 1 rfl; have h2 := cell_at hW.2 2 rfl; go_simp; try with_reducible rfl)
    try simp only [Act.put, List.setIfInBounds_toArray, List.set_cons_zero, List.set_cons_succ]
    refine dr_take 1 (some 20) (v := ?_) rfl rfl (by kernel_rfl) (by kernel_rfl) (by kernel_rfl) (fun _ _ _ h => h) rfl hT (fun W _ => ?_) ?_
    rotate_left
    · (go_simp; try with_reducible rfl)
    try simp only [Act.put, List.setIfInBounds_toArray, List.set_cons_zero, List.set_cons_succ]
    refine dr_step 2 rfl (by kernel_rfl) rfl (fun K hK => ?_)
    go_simp
    refine (rdone b g _ _ hr8).mono ?_
    rintro e w9 ⟨rfl, rfl⟩
    refine hK _ _ hT ?_
    clear hK K
    try simp only [doneV]
    try simp only [Act.put, List.setIfInBounds_toArray, List.set_cons_zero, List.set_cons_succ]
    refine dr_take 3 (some 22) (v := ?_) rfl rfl (by kernel_rfl) (by kernel_rfl) (by kernel_rfl) (fun _ _ _ h => h) rfl hT (fun W _ => ?_) ?_
    rotate_left
    · (go_simp; try with_reducible rfl)
    try simp only [Act.put, List.setIfInBounds_toArray, List.set_cons_zero, List.set_cons_succ]
    refine dr_step 4 rfl (by kernel_rfl) rfl (fun K hK => ?_)
    go_simp
    refine hK _ _ ⟨trivial, hb8⟩ ?_
    clear hK K hT
    have hT := And.intro trivial hb8
    try simp only [Act.put, List.setIfInBounds_toArray, List.set_cons_zero, List.set_cons_succ]
    refine dr_take 5 (some 3) (v := ?_) rfl rfl (by kernel_rfl) (by kernel_rfl) (by kernel_rfl) (fun _ _ _ h => h) rfl hT (fun W _ => ?_) ?_
    rotate_left
    · (go_simp; try with_reducible rfl)
    try simp only [Act.put, List.setIfInBounds_toArray, List.set_cons_zero, List.set_cons_succ]
    refine dr_done (by kernel_rfl) ?_
    go_wp2_with fail
    refine bodyPost_ret (by simp [results, Tryz.results48, go_sem, z0, z1, z2]; try rfl) rfl ?_
    exact ⟨rfl, hcz.drew⟩

  · go_wp2_with fail
    have hb5 := heap_alloc_new w3 (.cells #[.string (str k), .string ⟨#[]⟩, .bool true] 32)
    have hc5 : Ch [] w3 (w3.alloc (.cells #[.string (str k), .string ⟨#[]⟩, .bool true] 32)) := (Ch.refl [] w3).alloc _
    generalize w3.alloc (.cells #[.string (str k), .string ⟨#[]⟩, .bool true] 32) = w6 at *
    generalize hy : w3.heap.size = y at *
    have hr7 := hr3.nil hc5
    simp only [if_true] at hr7
    have hcG : Ch [] w0 w6 := hc03.trans hc5 (by simp)
    have hb7 := hb5
    clear hr3 hb5 hc5 hc03
    have hr8 := hr7.nil (Ch.refl [] w6).drew
    have hbx : w6.heap[x]? = some (.cells #[.string ⟨#[]⟩, .string ⟨#[]⟩, .bool false] 32 (0, 0)) := hcG.at_ hb0 (by simp)
    have q0 := free_at hbx 0
    have q1 := free_at hbx 1
    have q2 := free_at hbx 2
    have p0 := cell_at hbx 0 rfl
    have p1 := cell_at hbx 1 rfl
    have p2 := cell_at hbx 2 rfl
    have hcx : Ch [x] w6 (((w6.setCell ⟨x, 0, none⟩ (.string (str k))).setCell ⟨x, 1, none⟩ (.string ⟨#[]⟩)).setCell ⟨x, 2, none⟩ (.bool true)) := (((Ch.refl [x] w6).setCell _ _ (by simp)).setCell _ _ (by simp)).setCell _ _ (by simp)
    have hbz := heap_setCell_same _ x 2 _ 32 (.bool true) (heap_setCell_same _ x 1 _ 32 (.string ⟨#[]⟩) (heap_setCell_same w6 x 0 _ 32 (.string (str k)) hbx))
    have hb8 := hcx.at_ hb7 (by simp; omega)
    have hcz : Ch [] w (((w6.setCell ⟨x, 0, none⟩ (.string (str k))).setCell ⟨x, 1, none⟩ (.string ⟨#[]⟩)).setCell ⟨x, 2, none⟩ (.bool true)) := (hc0.trans hcG (by simp)).trans hcx (by have := hX.out; simp; omega)
    have z0 := cell_at hbz 0 rfl
    have z1 := cell_at hbz 1 rfl
    have z2 := cell_at hbz 2 rfl
    refine dr_begin (by kernel_rfl) ?_
    refine dr_more (fun W => W.heap[y]? = some (.cells #[.string (str k), .string ⟨#[]⟩, .bool true] 32 (0, 0))) ?_
    have hT : True ∧ (w6.drew.heap[y]? = some (.cells #[.string (str k), .string ⟨#[]⟩, .bool true] 32 (0, 0))) := ⟨trivial, hb7⟩
    refine dr_take 0 (some 19) (v := ?_) rfl rfl (by kernel_rfl) (by kernel_rfl) (by kernel_rfl) (fun _ _ _ h => h) rfl hT (fun W hW => ?_) ?_
    rotate_left
    · (have h0 := cell_at hW.2 0 rfl; have h1 := cell_at hW.2 1 rfl; have h2 := cell_at hW.2 2 rfl; go_simp; try with_reducible rfl)
    try simp only [Act.put, List.setIfInBounds_toArray, List.set_cons_zero, List.set_cons_succ]
    refine dr_take 1 (some 20) (v := ?_) rfl rfl (by kernel_rfl) (by kernel_rfl) (by kernel_rfl) (fun _ _ _ h => h) rfl hT (fun W _ => ?_) ?_
    rotate_left
    · (go_simp; try with_reducible rfl)
    try simp only [Act.put, List.setIfInBounds_toArray, List.set_cons_zero, List.set_cons_succ]
    refine dr_step 2 rfl (by kernel_rfl) rfl (fun K hK => ?_)
    go_simp
    refine (rdone b g _ _ hr8).mono ?_
    rintro e w9 ⟨rfl, rfl⟩
    refine hK _ _ hT ?_
    clear hK K
    try simp only [doneV]
    try simp only [Act.put, List.setIfInBounds_toArray, List.set_cons_zero, List.set_cons_succ]
    refine dr_take 3 (some 22) (v := ?_) rfl rfl (by kernel_rfl) (by kernel_rfl) (by kernel_rfl) (fun _ _ _ h => h) rfl hT (fun W _ => ?_) ?_
    rotate_left
    · (go_simp; try with_reducible rfl)
    try simp only [Act.put, List.setIfInBounds_toArray, List.set_cons_zero, List.set_cons_succ]
    refine dr_step 4 rfl (by kernel_rfl) rfl (fun K hK => ?_)
    go_simp
    refine hK _ _ ⟨trivial, hb8⟩ ?_
    clear hK K hT
    have hT := And.intro trivial hb8
    try simp only [Act.put, List.setIfInBounds_toArray, List.set_cons_zero, List.set_cons_succ]
    refine dr_take 5 (some 3) (v := ?_) rfl rfl (by kernel_rfl) (by kernel_rfl) (by kernel_rfl) (fun _ _ _ h => h) rfl hT (fun W _ => ?_) ?_
    rotate_left
    · (go_simp; try with_reducible rfl)
    try simp only [Act.put, List.setIfInBounds_toArray, List.set_cons_zero, List.set_cons_succ]
    refine dr_done (by kernel_rfl) ?_
    go_wp2_with fail
    refine bodyPost_ret (by simp [results, Tryz.results48, go_sem, z0, z1, z2]; try rfl) rfl ?_
    exact ⟨rfl, hcz.drew⟩


end Go.Proofs.YtbkncfedahifkaaGreat

/-
  Package store: change.
-/
set_option linter.unusedVariables false
set_option linter.unusedSimpArgs false
namespace Go.Proofs.YtbkncfedahifkaaGreat
open Go.RowKit Go.Maps

theorem IsM.keep {w w' : World} {mb : Nat} {D : Mp} {F : List Nat} (h : IsM w mb D) (hc : Ch F w w') (hm : mb ∉ F) : IsM w' mb D := by
  obtain ⟨es, clock, hb, Ft, hs, hD⟩ := h
  exact ⟨es, clock, hc.at_ hb hm, Ft, hs, hD⟩
theorem IsM.lt {w : World} {mb : Nat} {D : Mp} (h : IsM w mb D) : mb < w.heap.size := World.ownsMap.lt h
theorem turned_ch {w w' : World} {mb : Nat} (h : w.mapTurned w' mb) : Ch [mb] w w' := (Ch.refl [mb] w).grown h.grown (fun k hk => .inl (by simpa [eq_comm] using hk))
theorem IsM.not_cell {w : World} {mb : Nat} {D : Mp} (h : IsM w mb D) {b o : Nat} {v : Value} (hc : w.cell? ⟨b, o, none⟩ = some v) : b ≠ mb := by
  rintro rfl
  obtain ⟨es, clock, hb, _⟩ := h
  simp [World.cell?, hb] at hc
/-- Pairs in a slice: one of them. -/
theorem pairs_cells {w : World} {A : Option Addr} {n c : Nat} {l : List PairL} (h : Rd 3 w A n c (l.flatMap PairL.cells)) (k : Nat) (hk : k < l.length) (hn : l.length = n) :
    ∃ b o, A = some ⟨b, o, none⟩ ∧ w.cell? ⟨b, o + k * 3, none⟩ = some (.string (str l[k].k)) ∧ w.cell? ⟨b, o + k * 3 + 1, none⟩ = some (.string (str l[k].v)) ∧ w.cell? ⟨b, o + k * 3 + 2, none⟩ = some (.bool l[k].gone) := by
  obtain ⟨b, o, e, hc⟩ := h.cells (by omega)
  have q : ∀ i, i < 3 → (l.flatMap PairL.cells)[k * 3 + i]? = (PairL.cells l[k])[i]? := by
    intro i hi
    exact flatMap_even_get PairL.cells 3 (fun _ => rfl) l k hk i hi
  refine ⟨b, o, e, hc (k * 3) _ ?_, ?_, ?_⟩
  · have := q 0 (by omega)
    rw [Nat.add_zero] at this
    rw [this]; rfl
  · rw [Nat.add_assoc]
    exact hc (k * 3 + 1) _ (by rw [q 1 (by omega)]; rfl)
  · rw [Nat.add_assoc]
    exact hc (k * 3 + 2) _ (by rw [q 2 (by omega)]; rfl)
/-- A map's entry goes. -/
theorem IsM.drop {w : World} {mb : Nat} {D : Mp} (h : IsM w mb D) (k : List UInt8) (hk : k.length ≤ 1000000) (ty : TypeId) :
    ∃ w', (Builtin.delete_ #[40, 9] ty #[.map (some mb), .string (str k)]).run Tryz.prog w = .ok (.tuple #[]) w' ∧ IsM w' mb (D.del (skey k)) ∧ Ch [mb] w w' := by
  obtain ⟨w', h1, h2, h3⟩ := World.ownsMap.drop h skeyed Tryz.underlying40 (skey_mk k hk) ty
  exact ⟨w', h1, IsM.of h2, turned_ch h3⟩
theorem IsM.store {w : World} {mb : Nat} {D : Mp} (h : IsM w mb D) (k v : List UInt8) (hk : k.length ≤ 1000000) (hv : v.length ≤ 1000000) (hn : Maps.size D < 100000000) :
    ∃ w', (Instr.mapUpdate 40 (.map (some mb)) (.string (str k)) (.string (str v))).run Tryz.prog w = .ok () w' ∧ IsM w' mb (D.put (skey k) (.lit (.string v))) ∧ Ch [mb] w w' := by
  obtain ⟨w', h1, h2, h3⟩ := World.ownsMap.store h skeyed Tryz.underlying40 (by unfold maxLen; omega) (skey_mk k hk) (pl_str v hv)
  exact ⟨w', h1, IsM.of h2, turned_ch h3⟩
theorem IsM.size_chg {w : World} {mb : Nat} {D : Mp} (h : IsM w mb D) (p : PairL) : Maps.size (chg D p) ≤ Maps.size D + 1 := by
  have ht := World.ownsMap.tidy h skeyed
  unfold chg
  split
  · have := size_del (k := skey p.k) ht
    omega
  · rw [size_put ht]
    split <;> omega

set_option maxRecDepth 100000 in
set_option maxHeartbeats 1000000 in
theorem stchange_any (mb : Nat) (D : Mp) (A : Option Addr) (n c : Nat) (ps : List PairL) (w : World) (hM : IsM w mb D) (hr : Rd 3 w A n c (ps.flatMap PairL.cells)) (hn : ps.length = n) (hok : ∀ p ∈ ps, p.ok) (hsz : Maps.size D + n ≤ 10000000) :
    Calls Tryz.prog 49 #[.map (some mb), .slice A n c] w fun e w' => e = .returned (.tuple #[]) ∧ IsM w' mb (chgs D ps) ∧ Ch [mb] w w' := by
  have hcc := hr.cap
  have hcm := hr.max
  have HOK := Lib.hid hok
  clear hok
  go_enter Tryz.func49, Tryz.ntmps49
  go_wp2_with fail
  go_loopw [8] (fun ki wr => ∃ k : Nat, k ≤ n ∧ ki = .int .i64 (k : Int) ∧ IsM wr mb (chgs D (ps.take k)) ∧ Maps.size (chgs D (ps.take k)) ≤ Maps.size D + k ∧ Ch [mb] w wr) (fun ki _ => n - (intOf ki).toNat)
  case atStart => exact ⟨0, by omega, rfl, hM, by simp [chgs], Ch.refl _ _⟩
  case round =>
    obtain ⟨k, hk, rfl, hMA, hsA, hch⟩ := hrel
    obtain ⟨wA, hwA⟩ : ∃ W, W = wr := ⟨_, rfl⟩
    subst hwA
    by_cases hlt : k < n
    · obtain ⟨b, o, rfl, c0, c1, c2⟩ := pairs_cells hr k (by omega) hn
      have hne := hM.not_cell c0
      have d0 := hch.cell c0 (by simpa using hne)
      have d1 := hch.cell c1 (by simpa using hne)
      have d2 := hch.cell c2 (by simpa using hne)
      have hx := HOK.out _ (List.getElem_mem (l := ps) (n := k) (by omega))
      have e1 : chgs D (ps.take (k + 1)) = chg (chgs D (ps.take k)) (ps[k]'(by omega)) := by rw [List.take_succ_eq_append_getElem (by omega), chgs_snoc]
      have hs1 := hMA.size_chg (ps[k]'(by omega))
      rw [← e1] at hs1
      generalize ps[k]'(by omega) = x at *
      obtain ⟨xk, xv, xg⟩ := x
      obtain ⟨hx1, hx2⟩ := hx
      simp only at hx1 hx2 d0 d1 d2
      generalize hDe : chgs D (ps.take k) = D1 at *
      have E1 := Lib.hid e1
      clear e1 c0 c1 c2 hr hDe
      have hcX : Ch [] wA (wA.alloc (.cells #[.string (str xk), .string (str xv), .bool xg] 32)) := (Ch.refl [] wA).alloc _
      have hMX := hMA.keep hcX (by simp)
      have hbX := heap_alloc_new wA (.cells #[.string (str xk), .string (str xv), .bool xg] 32)
      rcases xg with _ | _
      · obtain ⟨w2, hrun, hM2, hc2⟩ := hMX.store xk xv (by omega) (by omega) (by omega)
        go_wp2_with fail
        refine ⟨⟨k + 1, by omega, by go_num, by rw [E1.out]; exact hM2, by omega, (hch.trans hcX (by simp)).trans hc2 (by simp)⟩, ?_⟩
        simp [intOf]
        omega
      · obtain ⟨w2, hrun, hM2, hc2⟩ := hMX.drop xk (by omega) 0
        go_wp2_with fail
        refine ⟨⟨k + 1, by omega, by go_num, by rw [E1.out]; exact hM2, by omega, (hch.trans hcX (by simp)).trans hc2 (by simp)⟩, ?_⟩
        simp [intOf]
        omega
    · obtain rfl : k = n := by omega
      rw [List.take_of_length_le (by omega)] at hMA
      clear hlt hk
      go_wp2_with fail
      go_end0
      exact ⟨rfl, hMA, hch⟩

end Go.Proofs.YtbkncfedahifkaaGreat

/-
  Package store: what a store is; Get, Down, noted.
-/
set_option linter.unusedVariables false
set_option linter.unusedSimpArgs false
namespace Go.Proofs.YtbkncfedahifkaaGreat
open Go.RowKit Go.Maps

/-- A log holds not too many records. -/
theorem Frames.count {R : Nat → List UInt8} {n sz turn : Nat} (hs : 128 ≤ sz) (hs2 : sz ≤ 4096) : ∀ {fs : List (List (List UInt8))} {a nx a' : Nat}, Frames R n sz turn a nx fs a' → fs.flatten.length + a * 1024 ≤ a' * 1024
  | [], a, nx, a', h => by simp only [Frames] at h; subst h; simp
  | f :: fs, a, nx, a', h => by
    have h1 := Frames.count hs hs2 h.2.2.2
    have h2 := bodyB_ge f
    have h3 := secsN_mul (sz - 16) (32 + (bodyB f).length) (by omega)
    have h4 : lenF sz f * (sz - 16) ≤ lenF sz f * 4080 := Nat.mul_le_mul_left _ (by omega)
    have h5 : lenF sz f = secsN (sz - 16) (32 + (bodyB f).length) := rfl
    rw [← h5] at h3
    rw [List.flatten_cons, List.length_append]
    omega
theorem Logg.count_le {w : World} {lb um b g m n sz turn a : Nat} {X : List Nat} {rs : List (List UInt8)} (h : Logg w lb um b g m X n sz turn a rs) : rs.length ≤ 3000000 := by
  obtain ⟨R, next, h1, h2⟩ := h
  obtain ⟨fs, rfl, _, h3⟩ := h2.fs
  have hb := h1.bds
  have h4 := Frames.count h1.s128 h1.live.bds.2.1 h3
  have h5 := h2.bds h1.s128
  omega

section
variable {w w' : World} {lb um b g m n sz turn a next count x : Nat} {X : List Nat} {rs : List (List UInt8)} {R : Nat → List UInt8}
theorem LogS.add (h : LogS w lb um b g m X n sz R turn next a count) (hx : w.heap.size ≤ x) : LogS w lb um b g m (x :: X) n sz R turn next a count :=
  { h with
    live := (h.live.add hx).sub (by intro y hy; simp only [List.mem_cons] at hy ⊢; rcases hy with h | h | h | h <;> simp [h])
    lX := by have := lt_of_at h.cells; have := h.lX; simp only [List.mem_cons, not_or]; exact ⟨by omega, h.lX⟩
    uX := by have := h.map.lt; simp only [List.mem_cons, not_or]; exact ⟨by omega, h.uX⟩ }
theorem Logg.add (h : Logg w lb um b g m X n sz turn a rs) (hx : w.heap.size ≤ x) : Logg w lb um b g m (x :: X) n sz turn a rs := by
  obtain ⟨R, next, h1, h2⟩ := h
  exact ⟨R, next, h1.add hx, h2⟩
theorem Logd.add (h : Logd w b g m X n sz turn a rs) (hx : w.heap.size ≤ x) : Logd w b g m (x :: X) n sz turn a rs := by
  obtain ⟨R, next, h1, h2⟩ := h
  exact ⟨R, next, h1.add hx, h2⟩
theorem Logg.sub (h : Logg w lb um b g m X n sz turn a rs) {Y : List Nat} (hY : ∀ x ∈ Y, x ∈ X) : Logg w lb um b g m Y n sz turn a rs := by
  obtain ⟨R, next, h1, h2⟩ := h
  refine ⟨R, next, { h1 with live := h1.live.sub ?_, lX := fun hm => h1.lX (hY _ hm), uX := fun hm => h1.uX (hY _ hm) }, h2⟩
  intro x hx
  simp only [List.mem_cons] at hx ⊢
  rcases hx with e | e | e
  · exact .inl e
  · exact .inr (.inl e)
  · exact .inr (.inr (hY x e))
end

/-- A store, with power: its log is ps's records. -/
structure StoreAt (w : World) (sb lb um b g m : Nat) (X : List Nat) (n sz turn a : Nat) (D : Mp) (mb : Nat) (ps : List PairL) : Prop where
  cells : w.heap[sb]? = some (.cells #[.pointer (some ⟨lb, 0, none⟩), .map (some mb), .bool false] 101 (0, 0))
  log : Logg w lb um b g m (sb :: X) n sz turn a (ps.map encP)
  map : IsM w mb D
  is : chgs (.map []) ps = D
  ok : ∀ p ∈ ps, p.ok
  mX : mb ∉ [sb, lb, um, b, g, m]
  mY : mb ∉ X
  sX : sb ∉ X
def StoreS (w : World) (sb lb um b g m : Nat) (X : List Nat) (n sz turn a : Nat) (D : Mp) : Prop := ∃ mb ps, StoreAt w sb lb um b g m X n sz turn a D mb ps
/-- A disk that holds a store. -/
def StoreD (w : World) (b g m : Nat) (X : List Nat) (n sz turn a : Nat) (D : Mp) : Prop := ∃ ps, Logd w b g m X n sz turn a (ps.map encP) ∧ chgs (.map []) ps = D ∧ ∀ p ∈ ps, p.ok
section
variable {w w' : World} {sb lb um b g m n sz turn a : Nat} {X : List Nat} {D : Mp} {mb : Nat} {ps : List PairL}
theorem StoreAt.keep (h : StoreAt w sb lb um b g m X n sz turn a D mb ps) (hc : Ch X w w') : StoreAt w' sb lb um b g m X n sz turn a D mb ps :=
  { h with
    cells := hc.at_ h.cells h.sX
    log := h.log.keep (hc.mono (by intro x hx; exact .inl (by simp [hx])))
    map := h.map.keep hc h.mY }
theorem StoreS.keep (h : StoreS w sb lb um b g m X n sz turn a D) (hc : Ch X w w') : StoreS w' sb lb um b g m X n sz turn a D := by
  obtain ⟨mb, ps, h⟩ := h
  exact ⟨mb, ps, h.keep hc⟩
theorem StoreS.nil (h : StoreS w sb lb um b g m X n sz turn a D) (hc : Ch [] w w') : StoreS w' sb lb um b g m X n sz turn a D := h.keep (hc.mono (by simp))
theorem StoreS.disk (h : StoreS w sb lb um b g m X n sz turn a D) : StoreD w b g m (lb :: um :: sb :: X) n sz turn a D := by
  obtain ⟨mb, ps, h⟩ := h
  exact ⟨ps, h.log.disk, h.is, h.ok⟩
theorem StoreD.nil (h : StoreD w b g m X n sz turn a D) (hc : Ch [] w w') : StoreD w' b g m X n sz turn a D := by
  obtain ⟨ps, h1, h2⟩ := h
  exact ⟨ps, h1.nil hc, h2⟩
theorem StoreS.out (h : StoreS w sb lb um b g m X n sz turn a D) : sb < w.heap.size ∧ lb < w.heap.size ∧ um < w.heap.size ∧ b < w.heap.size ∧ g < w.heap.size ∧ m < w.heap.size := by
  obtain ⟨mb, ps, h⟩ := h
  have := h.log.out
  exact ⟨lt_of_at h.cells, this.1, this.2.1, this.2.2.1, this.2.2.2.1, this.2.2.2.2⟩
theorem size_chgs : ∀ (ps : List PairL) (D : Mp), Tidy D → Tidy (chgs D ps) ∧ Maps.size (chgs D ps) ≤ Maps.size D + ps.length
  | [], D, h => ⟨h, by simp [chgs]⟩
  | p :: ps, D, h => by
    have hk : WideAt.IsKeyLit (skey p.k) := trivial
    have h1 : Tidy (chg D p) ∧ Maps.size (chg D p) ≤ Maps.size D + 1 := by
      unfold chg
      split
      · have := size_del (k := skey p.k) h
        exact ⟨h.del _, by omega⟩
      · refine ⟨h.put hk _, ?_⟩
        rw [size_put h]
        split <;> omega
    have h2 := size_chgs ps (chg D p) h1.1
    exact ⟨h2.1, by have := h2.2; have := h1.2; rw [List.length_cons]; show Maps.size (chgs (chg D p) ps) ≤ _; omega⟩
theorem StoreAt.size_le (h : StoreAt w sb lb um b g m X n sz turn a D mb ps) : Maps.size D ≤ 3000000 := by
  have h1 := h.log.count_le
  have h2 := (size_chgs ps (.map []) tidy_empty).2
  rw [h.is] at h2
  have e : Maps.size (.map [] : Mp) = 0 := rfl
  rw [List.length_map] at h1
  omega
end

/-- A key's value. -/
def getL (D : Mp) (k : List UInt8) : List UInt8 := match D.atKey (skey k) (.lit (.string [])) with
  | .lit (.string l) => l
  | _ => []
theorem IsM.look {w : World} {mb : Nat} {D : Mp} (h : IsM w mb D) (k : List UInt8) (hk : k.length ≤ 1000000) :
    (Instr.lookup 40 (.map (some mb)) (.string (str k)) true).run Tryz.prog w = .ok (.tuple #[.string (str (getL D k)), .bool (has D (skey k))]) w ∧
    D.atKey (skey k) (.lit (.string [])) = .lit (.string (getL D k)) := by
  have hz : (zeroValue 9).run Tryz.prog w = .ok (.string ⟨#[]⟩) w := by simp [Tryz.zeroValue9]
  have hzd : plainElem (H := Value) Tryz.prog 9 (.string ⟨#[]⟩) = some (.lit (.string []), []) := pl_str [] (by simp)
  obtain ⟨v, ps, hrun, hat⟩ := World.ownsMap.look_ok h skeyed Tryz.underlying40 hz hzd (skey_mk k hk)
  obtain ⟨s, rfl, he, _⟩ := plainElem_string_inv Tryz.underlying9 hat
  simp only [Prod.mk.injEq] at he
  have e2 : getL D k = s.data.toList := by unfold getL; rw [he.1]
  refine ⟨?_, by rw [e2]; exact he.1⟩
  rw [e2, str_of]
  exact hrun

section
variable {sb lb um b g m n sz turn a : Nat} {X : List Nat} {D : Mp}
set_option maxRecDepth 100000 in
theorem stget_any (s : ByteArray) (w : World) (h : StoreS w sb lb um b g m X n sz turn a D) (hk : s.size ≤ 1000000) :
    Calls Tryz.prog 18 #[.pointer (some ⟨sb, 0, none⟩), .string s] w fun e w' => e = .returned (.tuple #[.string (str (getL D s.data.toList)), .bool (has D (skey s.data.toList))]) ∧ w = w' := by
  obtain ⟨mb, ps, h⟩ := h
  have c1 := cell_at h.cells 1 rfl
  obtain ⟨hrun, _⟩ := h.map.look s.data.toList (by simpa using hk)
  rw [str_of] at hrun
  generalize str (getL D s.data.toList) = x at *
  generalize has D (skey s.data.toList) = y at *
  go_enter Tryz.func18, Tryz.ntmps18
  go_wp2_with fail
  go_ret2
  exact ⟨rfl, rfl⟩
theorem stdown_any (w : World) (h : StoreS w sb lb um b g m X n sz turn a D) :
    Calls Tryz.prog 25 #[.pointer (some ⟨sb, 0, none⟩)] w fun e w' => e = .returned (.bool false) ∧ w = w' := by
  obtain ⟨mb, ps, h⟩ := h
  have c2 := cell_at h.cells 2 rfl
  go_enter Tryz.func25, Tryz.ntmps25
  go_wp2_with fail
  go_ret
  exact ⟨rfl, rfl⟩
theorem stnoted_any (sb : Nat) (e : Int) (w : World) (he : e ≠ 32) :
    Calls Tryz.prog 53 #[.pointer (some ⟨sb, 0, none⟩), .int .i64 e] w fun x w' => x = .returned (.int .i64 e) ∧ w = w' := by
  go_enter Tryz.func53, Tryz.ntmps53
  go_wp2_with fail
  go_ret
  exact ⟨rfl, rfl⟩
end

end Go.Proofs.YtbkncfedahifkaaGreat

/-
  Package store: Open.
-/
set_option linter.unusedVariables false
set_option linter.unusedSimpArgs false
namespace Go.Proofs.YtbkncfedahifkaaGreat
open Go.RowKit Go.Maps

theorem pairs_one {w : World} {x : Nat} {p : PairL} {t : TypeId} {fr : Nat × Nat} (h : w.heap[x]? = some (.cells #[.string (str p.k), .string (str p.v), .bool p.gone] t fr)) : Rd 3 w (some ⟨x, 0, none⟩) 1 1 ([p].flatMap PairL.cells) :=
  ⟨rfl, Nat.le_refl _, by simp [maxLen], fun _ => ⟨x, 0, rfl, fun j u hu => by
    rw [Nat.zero_add]
    exact cell_at h j (by simpa [PairL.cells] using hu)⟩⟩
theorem chgs_one (D : Mp) (p : PairL) : chgs D [p] = chg D p := rfl
theorem isM_made (w : World) : IsM (w.alloc (.map #[] 0)) w.heap.size (.map []) := World.ownsMap_made w _ _ _

section
variable {b g m n sz turn a : Nat} {X : List Nat} {D : Mp}
set_option maxRecDepth 100000 in
set_option maxHeartbeats 2000000 in
theorem stopen_any (w : World) (h : StoreD w b g m X n sz turn a D) (hX : ∀ x ∈ X, x < w.heap.size) (hn : 16 ≤ n) (hsz : 128 ≤ sz) (ht : turn < 4611686018427387904) :
    Calls Tryz.prog 13 #[.pointer (some ⟨b, 0, none⟩)] w fun e w' => ∃ sb lb um, e = .returned (.tuple #[.pointer (some ⟨sb, 0, none⟩), .int .i64 0]) ∧ w.heap.size ≤ sb ∧ w.heap.size ≤ lb ∧ w.heap.size ≤ um ∧
      StoreS w' sb lb um b g m X n sz turn a D ∧ Ch [] w w' := by
  have hmm := @run_makeMap Tryz.prog
  obtain ⟨ps, hd, rfl, hok⟩ := h
  have HOK := Lib.hid hok
  clear hok
  obtain ⟨rs, hrs⟩ : ∃ rs, ps.map encP = rs := ⟨_, rfl⟩
  rw [hrs] at hd
  have hrl : rs.length = ps.length := by rw [← hrs, List.length_map]
  have hlt := hd.lts
  have ho := openlog_any w hd hX hn hsz ht
  go_enter Tryz.func13, Tryz.ntmps13
  have HRS := Lib.hid hrs
  have HRL := Lib.hid hrl
  clear hrs hrl
  go_wp2_with fail
  refine ho.mono ?_
  rintro e w1 ⟨lb, um, A, c, rfl, hlb, hum, hl1, hr1, hc1⟩
  clear ho
  have hO := hl1.out
  have hcl := hl1.count_le
  obtain ⟨_, _, e3, hk1⟩ := hr1.recs [] (by simp)
  simp only [Value.slice.injEq, true_and] at e3
  obtain ⟨rfl, rfl⟩ := e3
  generalize hN : rs.length = N at *
  have HN := Lib.hid hN
  clear hN hr1
  go_wp2_with fail
  have hM2 := (isM_made w1).keep ((Ch.refl [] _).alloc (.cells #[.pointer (some ⟨lb, 0, none⟩), .map (some w1.heap.size), .bool false] 101)) (by simp)
  have hb2 := heap_alloc_new (w1.alloc (.map #[] 0)) (.cells #[.pointer (some ⟨lb, 0, none⟩), .map (some w1.heap.size), .bool false] 101)
  have hc2 : Ch [] w1 ((w1.alloc (.map #[] 0)).alloc (.cells #[.pointer (some ⟨lb, 0, none⟩), .map (some w1.heap.size), .bool false] 101)) := ((Ch.refl [] w1).alloc _).alloc _
  rw [show (w1.alloc (.map #[] 0)).heap.size = w1.heap.size + 1 from by simp] at hb2
  generalize (w1.alloc (.map #[] 0)).alloc (.cells #[.pointer (some ⟨lb, 0, none⟩), .map (some w1.heap.size), .bool false] 101) = w2 at *
  have hl2 := ((hl1.add (x := w1.heap.size) (by omega)).add (x := w1.heap.size + 1) (by omega)).nil hc2
  generalize hmb : w1.heap.size = mb at *
  have HMB := Lib.hid hmb
  have hs1 := hc1.size
  have hsb2 := lt_of_at hb2
  generalize hsb : mb + 1 = sb at *
  have HSB := Lib.hid hsb
  have hne : sb ≠ mb := by omega
  clear hmb hsb hmm hl1
  go_loopw [27] (fun ki wr => ∃ k : Nat, k ≤ N ∧ ki = .int .i64 (k : Int) ∧ IsM wr mb (chgs (.map []) (ps.take k)) ∧ Maps.size (chgs (.map []) (ps.take k)) ≤ k ∧ Ch [mb] w2 wr) (fun ki _ => N - (intOf ki).toNat)
  case atStart => exact ⟨0, by omega, rfl, hM2, by simp [chgs, Maps.size], Ch.refl _ _⟩
  case round =>
    obtain ⟨k, hk, rfl, hMA, hsA, hch⟩ := hrel
    obtain ⟨wA, hwA⟩ : ∃ W, W = wr := ⟨_, rfl⟩
    subst hwA
    have hbA := hch.at_ hb2 (by simpa using hne)
    by_cases hlt : k < N
    · have hkp : k < ps.length := by have := HRL.out; have := HN.out; omega
      obtain ⟨pb, po, A', n', c', rfl, hcell, hrow, hno, hnl⟩ := hk1.at0 k (by have := HN.out; omega)
      have hmA := hMA.lt
      have hblt := World.block_lt_of_cell? w1 _ hcell
      have hcell2 := hch.cell (hc2.cell hcell (by simp)) (by have := HMB.out; simp only at hblt ⊢; simp; omega)
      have hre : rs[k]'(by have := HN.out; omega) = encP ps[k] := by
        have h0 := HRS.out
        have h1 : (ps.map encP)[k]'(by simp; omega) = encP ps[k] := by simp
        rw [← h1]
        congr 1
        exact h0.symm
      rw [hre] at hrow
      have hx := HOK.out _ (List.getElem_mem (l := ps) (n := k) hkp)
      have hA' : ∀ ad, A' = some ad → ad.block ≠ mb := by
        rintro ad rfl
        obtain ⟨ab, ao, ea, hac⟩ := hrow.cells (by rw [← hrow.length]; unfold encP; simp only [List.length_append]; have : (encB ps[k].gone).length = 1 := rfl; omega)
        injection ea with ea
        subst ea
        have h3 := World.block_lt_of_cell? w1 _ (hac 0 _ (List.getElem?_eq_getElem (by rw [bvs_length, hrow.length, ← hrow.length]; unfold encP; simp only [List.length_append]; have : (encB ps[k].gone).length = 1 := rfl; omega)))
        simp only at h3 ⊢
        have := HMB.out
        omega
      have hrow2 : RdB wA A' n' c' (encP ps[k]) := (hrow.keep (F := []) hc2 (by simp)).keep hch (by intro ad had; simpa using hA' ad had)
      have e1 : chgs (.map []) (ps.take (k + 1)) = chg (chgs (.map []) (ps.take k)) ps[k] := by rw [List.take_succ_eq_append_getElem hkp, chgs_snoc]
      have hs1 := hMA.size_chg ps[k]
      rw [← e1] at hs1
      clear hno hnl hcell hrow hre
      generalize ps[k] = x at *
      have hpr := stpair_any x A' n' c' wA hx hrow2
      go_wp2_with fail
      refine hpr.mono ?_
      rintro e wB ⟨rfl, hcB⟩
      clear hpr
      rw [← chg_bare] at e1
      have hxb : x.bare.ok := ⟨hx.1, by unfold PairL.bare; simp only; split; (simp); exact hx.2⟩
      generalize x.bare = y at *
      obtain ⟨yk, yv, yg⟩ := y
      unfold PairL.val
      simp only
      go_wp2_with fail
      have hcX : Ch [] wB (wB.alloc (.cells #[.string (str yk), .string (str yv), .bool yg] 32)) := (Ch.refl [] wB).alloc _
      have hbX := heap_alloc_new wB (.cells #[.string (str yk), .string (str yv), .bool yg] 32)
      generalize wB.alloc (.cells #[.string (str yk), .string (str yv), .bool yg] 32) = wX at *
      generalize hyb : wB.heap.size = yb at *
      have hymb : yb ≠ mb := by have := hcB.size; omega
      clear hyb
      have hcAX := hcB.trans hcX (by simp)
      have hbS := hcAX.at_ hbA (by simp)
      have hMX := hMA.keep hcAX (by simp)
      go_wp2_with fail
      refine dr_begin (by kernel_rfl) ?_
      refine dr_more (fun W => W.heap[sb]? = some (.cells #[.pointer (some ⟨lb, 0, none⟩), .map (some mb), .bool false] 101 (0, 0)) ∧ W.heap[yb]? = some (.cells #[.string (str yk), .string (str yv), .bool yg] 32 (0, 0))) ?_
      have hT : True ∧ (wX.drew.heap[sb]? = some (.cells #[.pointer (some ⟨lb, 0, none⟩), .map (some mb), .bool false] 101 (0, 0)) ∧ wX.drew.heap[yb]? = some (.cells #[.string (str yk), .string (str yv), .bool yg] 32 (0, 0))) := ⟨trivial, hbS, hbX⟩
      refine dr_take 0 (some 38) (v := ?_) rfl rfl (by kernel_rfl) (by kernel_rfl) (by kernel_rfl) (fun _ _ _ h => h) rfl hT (fun W _ => ?_) ?_
      rotate_left
      · (go_simp; try with_reducible rfl)
      try simp only [Act.put, List.setIfInBounds_toArray, List.set_cons_zero, List.set_cons_succ]
      refine dr_take 1 (some 39) (v := ?_) rfl rfl (by kernel_rfl) (by kernel_rfl) (by kernel_rfl) (fun _ _ _ h => h) rfl hT (fun W _ => ?_) ?_
      rotate_left
      · (go_simp; try with_reducible rfl)
      try simp only [Act.put, List.setIfInBounds_toArray, List.set_cons_zero, List.set_cons_succ]
      refine dr_take 2 (some 40) (v := ?_) rfl rfl (by kernel_rfl) (by kernel_rfl) (by kernel_rfl) (fun _ _ _ h => h) rfl hT (fun W _ => ?_) ?_
      rotate_left
      · (go_simp; try with_reducible rfl)
      try simp only [Act.put, List.setIfInBounds_toArray, List.set_cons_zero, List.set_cons_succ]
      refine dr_take 3 (some 41) (v := ?_) rfl rfl (by kernel_rfl) (by kernel_rfl) (by kernel_rfl) (fun _ _ _ h => h) rfl hT (fun W hW => ?_) ?_
      rotate_left
      · (have h1 := cell_at hW.2.1 1 rfl; go_simp; try with_reducible rfl)
      try simp only [Act.put, List.setIfInBounds_toArray, List.set_cons_zero, List.set_cons_succ]
      refine dr_take 4 (some 42) (v := ?_) rfl rfl (by kernel_rfl) (by kernel_rfl) (by kernel_rfl) (fun _ _ _ h => h) rfl hT (fun W hW => ?_) ?_
      rotate_left
      · (have h0 := cell_at hW.2.2 0 rfl; have h1 := cell_at hW.2.2 1 rfl; have h2 := cell_at hW.2.2 2 rfl; go_simp; try with_reducible rfl)
      try simp only [Act.put, List.setIfInBounds_toArray, List.set_cons_zero, List.set_cons_succ]
      refine dr_step 5 rfl (by kernel_rfl) rfl (fun K hK => ?_)
      go_simp
      have hcY : Ch [] wX ((wX.alloc (.cells #[.string (str yk), .string (str yv), .bool yg] 32)).drew) := ((Ch.refl [] wX).alloc _).drew
      have hbY : ((wX.alloc (.cells #[.string (str yk), .string (str yv), .bool yg] 32)).drew).heap[wX.heap.size]? = some (.cells #[.string (str yk), .string (str yv), .bool yg] 32 (0, 0)) := heap_alloc_new wX (.cells #[.string (str yk), .string (str yv), .bool yg] 32)
      have hT2 : True ∧ (((wX.alloc (.cells #[.string (str yk), .string (str yv), .bool yg] 32)).drew).heap[sb]? = some (.cells #[.pointer (some ⟨lb, 0, none⟩), .map (some mb), .bool false] 101 (0, 0)) ∧ ((wX.alloc (.cells #[.string (str yk), .string (str yv), .bool yg] 32)).drew).heap[yb]? = some (.cells #[.string (str yk), .string (str yv), .bool yg] 32 (0, 0))) := ⟨trivial, hcY.at_ hbS (by simp), hcY.at_ hbX (by simp)⟩
      refine hK _ _ hT2 ?_
      clear hK K hT
      generalize (wX.alloc (.cells #[.string (str yk), .string (str yv), .bool yg] 32)).drew = wY at *
      generalize wX.heap.size = yc at *
      have hMY := hMX.keep hcY (by simp)
      have hpo := pairs_one (p := ⟨yk, yv, yg⟩) hbY
      try simp only [Act.put, List.setIfInBounds_toArray, List.set_cons_zero, List.set_cons_succ]
      refine dr_step 6 rfl (by kernel_rfl) rfl (fun K hK => ?_)
      go_simp
      refine (stchange_any mb _ _ 1 1 [⟨yk, yv, yg⟩] wY hMY hpo rfl (by intro q hq; simp only [List.mem_singleton] at hq; subst hq; exact hxb) (by have := hMX.lt; omega)).mono ?_
      rintro e wZ ⟨rfl, hMZ, hcZ⟩
      have hT3 : True ∧ (wZ.heap[sb]? = some (.cells #[.pointer (some ⟨lb, 0, none⟩), .map (some mb), .bool false] 101 (0, 0)) ∧ wZ.heap[yb]? = some (.cells #[.string (str yk), .string (str yv), .bool yg] 32 (0, 0))) := ⟨trivial, hcZ.at_ hT2.2.1 (by simp; omega), hcZ.at_ hT2.2.2 (by simp; omega)⟩
      refine hK _ _ hT3 ?_
      clear hK K hT2
      have hT := hT3
      try simp only [Act.put, List.setIfInBounds_toArray, List.set_cons_zero, List.set_cons_succ]
      refine dr_done (by kernel_rfl) ?_
      go_wp2_with fail
      refine ⟨⟨k + 1, by omega, by go_num, by rw [e1, ← chgs_one]; exact hMZ, by omega, ((hch.trans hcAX (by simp)).trans hcY (by simp)).trans hcZ (by simp)⟩, ?_⟩
      simp [intOf]
      omega
    · obtain rfl : k = N := by omega
      rw [List.take_of_length_le (by have := HRL.out; have := HN.out; omega)] at hMA
      clear hlt hk
      go_wp2_with fail
      go_ret2
      have hs2 := hc2.size
      have hms := HMB.out
      have hss := HSB.out
      refine ⟨sb, lb, um, rfl, by omega, hlb, hum, ⟨mb, ps, hbA, by rw [HRS.out]; exact (hl2.keep (hch.mono (by simp))).sub (by intro y hy; simp only [List.mem_cons] at hy ⊢; rcases hy with e | e <;> simp [e]), hMA, rfl, HOK.out, by simp; omega, fun hm => by have := hX _ hm; omega, fun hm => by have := hX _ hm; omega⟩, (hc1.trans hc2 (by simp)).trans hch (by simp; omega)⟩
end

end Go.Proofs.YtbkncfedahifkaaGreat

/-
  Package store: Apply, where there is room.
-/
set_option linter.unusedVariables false
set_option linter.unusedSimpArgs false
namespace Go.Proofs.YtbkncfedahifkaaGreat
open Go.RowKit Go.Maps Go.Shelf

theorem mclone_any (mb : Nat) (D : Mp) (w : World) (h : IsM w mb D) :
    Calls Tryz.prog 52 #[.map (some mb)] w fun e w' => e = .returned (.map (some w.heap.size)) ∧ IsM w' w.heap.size D ∧ w.heap.size < w'.heap.size ∧ Ch [] w w' := by
  refine (AnyW.maps_Clone_owns Tryz.cloneM 9 (plainElem Tryz.prog 9) mb (Maps.size D) D w h).mono ?_
  rintro e w' ⟨rfl, h1, h2, h3⟩
  exact ⟨rfl, h1, World.ownsMap.lt h1, Ch.of_below h3 []⟩

section
variable {sb lb um b g m n sz turn a : Nat} {X : List Nat} {D : Mp}
theorem StoreAt.nil {w w' : World} {mb : Nat} {ps : List PairL} (h : StoreAt w sb lb um b g m X n sz turn a D mb ps) (hc : Ch [] w w') : StoreAt w' sb lb um b g m X n sz turn a D mb ps := h.keep (hc.mono (by simp))
set_option maxRecDepth 100000 in
set_option maxHeartbeats 4000000 in
theorem stapply_any (A : Option Addr) (q c : Nat) (qs : List PairL) (w : World) (h : StoreS w sb lb um b g m X n sz turn a D) (hX : ∀ x ∈ X, x < w.heap.size) (hr : Rd 3 w A q c (qs.flatMap PairL.cells)) (hq : qs.length = q) (hq1 : q ≤ 1000) (hok : ∀ p ∈ qs, p.ok)
    (ht : turn < 4611686018427387904) (hf : commitE n sz a (qs.map encP) = 0) :
    Calls Tryz.prog 15 #[.pointer (some ⟨sb, 0, none⟩), .slice A q c] w fun e w' => e = .returned (.int .i64 0) ∧ StoreS w' sb lb um b g m X n sz turn (a + lenF sz (qs.map encP)) (chgs D qs) ∧ Ch [sb, lb, um, b, g, m] w w' := by
  have hcc := hr.cap
  have hcm := hr.max
  have hout := h.out
  obtain ⟨mb, ps, h⟩ := h
  have hszD := h.size_le
  have hsO := hout.1
  have c1 := cell_at h.cells 1 rfl
  have c2 := cell_at h.cells 2 rfl
  have HOK := Lib.hid hok
  have HF := Lib.hid hf
  clear hok hf
  go_enter Tryz.func15, Tryz.ntmps15
  go_wp2_with fail
  go_loopw [5, 16] (fun v ki wr => ∃ k : Nat, k ≤ q ∧ ki = .int .i64 (k : Int) ∧ RowsO wr w.heap.size v ((qs.take k).map encP) ∧ Ch [] w wr) (fun _ ki _ => q - (intOf ki).toNat)
  case atStart => exact ⟨0, by omega, rfl, RowsO.empty _ _, Ch.refl _ _⟩
  case round =>
    obtain ⟨k, hk, rfl, hrows, hch⟩ := hrel
    obtain ⟨wA, hwA⟩ : ∃ W, W = wr := ⟨_, rfl⟩
    subst hwA
    have hsA := hch.size
    by_cases hlt : k < q
    · obtain ⟨pb, po, rfl, d0, d1, d2⟩ := pairs_cells (hr.keep hch (by simp)) k (by omega) hq
      have hx := HOK.out _ (List.getElem_mem (l := qs) (n := k) (by omega))
      have e1 : (qs.take (k + 1)).map encP = (qs.take k).map encP ++ [encP (qs[k]'(by omega))] := by rw [List.take_succ_eq_append_getElem (by omega), List.map_append]; rfl
      have hbl2 : ((qs.take k).map encP).length ≤ 1000 := by rw [List.length_map, List.length_take]; omega
      generalize (qs.take k).map encP = L at hrows e1 hbl2
      have E1 := Lib.hid e1
      clear e1
      generalize qs[k]'(by omega) = x at *
      obtain ⟨xk, xv, xg⟩ := x
      obtain ⟨hx1, hx2⟩ := hx
      simp only at hx1 hx2 d0 d1 d2
      have hz1 : (str xk).size ≤ 1000 := by rw [str_size]; exact hx1
      have hz2 : (str xv).size ≤ 1000 := by rw [str_size]; exact hx2
      have hcX : Ch [] wA (wA.alloc (.cells #[.string (str xk), .string (str xv), .bool xg] 32)) := (Ch.refl [] wA).alloc _
      have hbX := heap_alloc_new wA (.cells #[.string (str xk), .string (str xv), .bool xg] 32)
      have f0 := cell_at hbX 0 rfl
      have f1 := cell_at hbX 1 rfl
      have f2 := cell_at hbX 2 rfl
      have hby := stbytes_any ⟨xk, xv, xg⟩ (wA.alloc (.cells #[.string (str xk), .string (str xv), .bool xg] 32)) ⟨hx1, hx2⟩
      unfold PairL.val at hby
      simp only at hby
      cases xg
      · go_wp2_with fail
        refine hby.mono ?_
        rintro e wB ⟨vB, rfl, hvB, hcB⟩
        clear hby
        have hcAB := hcX.trans hcB (by simp)
        have hcwB := hch.trans hcAB (by simp)
        have hsX : wA.heap.size < (wA.alloc (.cells #[.string (str xk), .string (str xv), .bool false] 32)).heap.size := by simp
        have hsB := hcB.size
        have hout2 := hrows.nil hcAB
        obtain ⟨vs0, hv0, _⟩ := id hrows
        obtain ⟨Ao, co, rfl⟩ := own_slice hv0
        have E1' := E1.out
        generalize encP ⟨xk, xv, false⟩ = B at *
        have E1 := Lib.hid E1'
        clear E1'
        have hvB2 := hvB
        obtain ⟨A9, c9, rfl, _⟩ := hvB2
        have hrow7 := hvB.row (v := .slice Ao L.length co) (fun y hy => by have := own_lt hv0 y hy; omega) w.heap.size (by omega)
        obtain ⟨vs, hvs1, hvs2⟩ := hout2
        have hvl : vs.length = L.length := by have := hvs1.1; simpa using this
        have hrows7 : ∀ (j : Nat) (h : j < [B].length), ∃ u, [Value.slice A9 B.length c9][j]? = some u ∧ RowO wB w.heap.size (.slice Ao L.length co) u [B][j] := by
          intro j hj
          obtain rfl : j = 0 := by simp at hj; omega
          exact ⟨_, rfl, hrow7⟩
        have HROWS := Lib.hid hrows7
        have HVS2 := Lib.hid hvs2
        have HVL := Lib.hid hvl
        have hsw : w.heap.size ≤ wB.heap.size := hcwB.size
        clear hrow7 hrows7 hvs2 hvl hv0 hrows
        go_wp2_with (first
          | (at_builtin; refine app_one rfl (.tmp 39) (.tmp 42) 77 45 (.slice none 0 0) 24 rfl Tryz.underlying77 Tryz.info45 rfl _ _ vs _ rfl rfl rfl hvs1 hsw (by omega) (by unfold maxLen; omega) ?_; intro v8 w8 h8 hgr8 hat8; have hc8 := hcwB.grown hgr8 (fun y hy => .inr (own_ge hvs1 y hy)))
          | fail)
        have hfin := RowsO.app HVS2.out HVL.out HROWS.out h8 hgr8 hat8 hsw
        refine ⟨⟨k + 1, by omega, by go_num, by rw [E1.out]; exact hfin, hc8⟩, ?_⟩
        simp [intOf]
        omega
      · go_wp2_with fail
        refine hby.mono ?_
        rintro e wB ⟨vB, rfl, hvB, hcB⟩
        clear hby
        have hcAB := hcX.trans hcB (by simp)
        have hcwB := hch.trans hcAB (by simp)
        have hsX : wA.heap.size < (wA.alloc (.cells #[.string (str xk), .string (str xv), .bool true] 32)).heap.size := by simp
        have hsB := hcB.size
        have hout2 := hrows.nil hcAB
        obtain ⟨vs0, hv0, _⟩ := id hrows
        obtain ⟨Ao, co, rfl⟩ := own_slice hv0
        have E1' := E1.out
        generalize encP ⟨xk, xv, true⟩ = B at *
        have E1 := Lib.hid E1'
        clear E1'
        have hvB2 := hvB
        obtain ⟨A9, c9, rfl, _⟩ := hvB2
        have hrow7 := hvB.row (v := .slice Ao L.length co) (fun y hy => by have := own_lt hv0 y hy; omega) w.heap.size (by omega)
        obtain ⟨vs, hvs1, hvs2⟩ := hout2
        have hvl : vs.length = L.length := by have := hvs1.1; simpa using this
        have hrows7 : ∀ (j : Nat) (h : j < [B].length), ∃ u, [Value.slice A9 B.length c9][j]? = some u ∧ RowO wB w.heap.size (.slice Ao L.length co) u [B][j] := by
          intro j hj
          obtain rfl : j = 0 := by simp at hj; omega
          exact ⟨_, rfl, hrow7⟩
        have HROWS := Lib.hid hrows7
        have HVS2 := Lib.hid hvs2
        have HVL := Lib.hid hvl
        have hsw : w.heap.size ≤ wB.heap.size := hcwB.size
        clear hrow7 hrows7 hvs2 hvl hv0 hrows
        go_wp2_with (first
          | (at_builtin; refine app_one rfl (.tmp 39) (.tmp 42) 77 45 (.slice none 0 0) 24 rfl Tryz.underlying77 Tryz.info45 rfl _ _ vs _ rfl rfl rfl hvs1 hsw (by omega) (by unfold maxLen; omega) ?_; intro v8 w8 h8 hgr8 hat8; have hc8 := hcwB.grown hgr8 (fun y hy => .inr (own_ge hvs1 y hy)))
          | fail)
        have hfin := RowsO.app HVS2.out HVL.out HROWS.out h8 hgr8 hat8 hsw
        refine ⟨⟨k + 1, by omega, by go_num, by rw [E1.out]; exact hfin, hc8⟩, ?_⟩
        simp [intOf]
        omega
    · obtain rfl : k = q := by omega
      rw [List.take_of_length_le (by omega)] at hrows
      clear hlt hk
      have hln : (qs.map encP).length ≤ 1000 := by rw [List.length_map]; omega
      have hle : ∀ r ∈ qs.map encP, r.length ≤ 1000000000000 := by intro r hr2; obtain ⟨p, hp, rfl⟩ := List.mem_map.1 hr2; have := encP_length (HOK.out p hp); omega
      obtain ⟨L, hL⟩ : ∃ L, qs.map encP = L := ⟨_, rfl⟩
      rw [hL] at hrows hln hle
      have HL := Lib.hid hL
      have HLE := Lib.hid hle
      clear hL hle
      obtain ⟨Al, cl, rfl, hrecs⟩ := hrows.recs [lb, b, g, m, um] (by simp; omega)
      have hA := h.nil hch
      have cA1 := cell_at hA.cells 1 rfl
      have hmcl := mclone_any mb D wA hA.map
      have hgen : w.heap.size ≤ wA.heap.size := hch.size
      generalize hmc : wA.heap.size = mc at *
      have HMC := Lib.hid hmc
      clear hmc
      go_wp2_with fail
      refine hmcl.mono ?_
      rintro e w3 ⟨rfl, hM3, hlt3, hc3⟩
      clear hmcl
      have hw3 : Ch [] w w3 := hch.trans hc3 (by simp)
      have hchg := stchange_any mc D A _ c qs w3 hM3 (hr.keep hw3 (by simp)) hq HOK.out (by omega)
      go_wp2_with fail
      refine hchg.mono ?_
      rintro e w4 ⟨rfl, hM4, hc4⟩
      clear hchg
      have hcA4 : Ch [] wA w4 := hc3.trans hc4 (by have := HMC.out; simp; omega)
      have hA4 := hA.nil hcA4
      have c40 := cell_at hA4.cells 0 rfl
      have hs4 := hcA4.size
      have hw4 : Ch [] w w4 := hch.trans hcA4 (by simp)
      have hcm2 := commit_any Al _ cl L w4 hA4.log (by have := hw4.size; intro x hx; simp only [List.mem_cons] at hx; rcases hx with rfl | hx; omega; have := hX x hx; omega) (hrecs.nil hcA4) (by omega) HLE.out ht (by rw [← HL.out]; exact HF.out) (by have := hA4.log.count_le; omega)
      go_wp2_with fail
      refine hcm2.mono ?_
      rintro e w5 ⟨rfl, hl5, hc5⟩
      clear hcm2
      go_wp2_with fail
      refine (stnoted_any sb 0 w5 (by decide)).mono ?_
      rintro e w' ⟨rfl, rfl⟩
      have hsbF : sb ∉ [lb, b, g, m, um] := by
        obtain ⟨R, next, q1, q2⟩ := hA4.log
        have o1 := q1.live.outs
        have o2 := q1.lX
        have o3 := q1.uX
        simp only [List.mem_cons, not_or, List.not_mem_nil, not_false_eq_true, and_true] at o1 o2 o3 ⊢
        exact ⟨fun e => o2.1 e.symm, fun e => o1.2.2.2.1.2.2.1 e.symm, fun e => o1.2.2.2.2.1.2.2.1 e.symm, fun e => o1.2.2.2.2.2.2.2.1 e.symm, fun e => o3.1 e.symm⟩
      have hb5 := hc5.at_ hA4.cells hsbF
      have f51 := free_at hb5 1
      have c51 := cell_at hb5 1 rfl
      go_wp2_with fail
      go_ret
      have hb6 := heap_setCell_same w5 sb 1 _ 101 (.map (some mc)) hb5
      have hc6 : Ch [sb] w5 (w5.setCell ⟨sb, 1, none⟩ (.map (some mc))) := (Ch.refl [sb] w5).setCell _ _ (by simp)
      have hmcw : w.heap.size ≤ mc := hgen
      have hmX : ∀ x, x < w.heap.size → mc ≠ x := fun x hx => by omega
      rw [HL.out]
      refine ⟨rfl, ⟨mc, ps ++ qs, hb6, by rw [List.map_append, HL.out]; exact hl5.keep (hc6.mono (by simp)), (hM4.keep hc5 ?_).keep hc6 ?_, ?_, ?_, ?_, fun hm => hmX _ (hX _ hm) rfl, h.sX⟩, ?_⟩
      · simp only [List.mem_cons, List.not_mem_nil, or_false, not_or]; exact ⟨hmX _ hout.2.1, hmX _ hout.2.2.2.1, hmX _ hout.2.2.2.2.1, hmX _ hout.2.2.2.2.2, hmX _ hout.2.2.1⟩
      · simp only [List.mem_cons, List.not_mem_nil, or_false]; exact hmX _ hsO
      · rw [chgs_append, h.is]
      · intro p hp; rcases List.mem_append.1 hp with hp | hp; exact h.ok p hp; exact HOK.out p hp
      · simp only [List.mem_cons, List.not_mem_nil, or_false, not_or]; exact ⟨hmX _ hsO, hmX _ hout.2.1, hmX _ hout.2.2.1, hmX _ hout.2.2.2.1, hmX _ hout.2.2.2.2.1, hmX _ hout.2.2.2.2.2⟩
      · exact ((hw4.mono (by simp)).trans hc5 (by simp)).trans hc6 (by simp)
end

end Go.Proofs.YtbkncfedahifkaaGreat

/-
  Package store: the keys in order; HasPrefix; Keys.
-/
set_option linter.unusedVariables false
set_option linter.unusedSimpArgs false
namespace Go.Proofs.YtbkncfedahifkaaGreat
open Go.RowKit Go.Maps Go.Sort Go.Shelf

/-- A map's keys, in order. -/
def keysL (D : Mp) : List (List UInt8) := (strKeys D).mergeSort leB
theorem keysL_perm (D : Mp) : (keysL D).Perm (strKeys D) := List.mergeSort_perm _ _
theorem keysL_le (D : Mp) : (keysL D).Pairwise (fun a b => a ≤ b) := by
  have tr : ∀ a b c : List UInt8, leB a b = true → leB b c = true → leB a c = true := fun a b c h1 h2 => by simp only [leB, decide_eq_true_eq] at *; exact List.le_trans h1 h2
  have to : ∀ a b : List UInt8, (leB a b || leB b a) = true := fun a b => by simp only [leB, Bool.or_eq_true, decide_eq_true_eq]; exact List.le_total a b
  exact (List.pairwise_mergeSort tr to (strKeys D)).imp (fun {a b} h => by simpa [leB] using h)

theorem keysS_any (mb : Option Nat) (W : World) : Calls Tryz.prog 57 #[.map mb] W fun e w' => e = .returned (.func (.func 90) #[] #[.pointer (some ⟨W.heap.size, 0, none⟩)]) ∧ w' = W.alloc (.cells #[.map mb] 40) :=
  (callsIn_wide (n := 5)).1 (AnyZ.keys_in Tryz.keysS Fence.wide 5 trivial rfl mb W)
theorem sortedS_any (mb : Nat) (D : Mp) (w : World) (hown : IsM w mb D) (hmax : Maps.size D ≤ 5000000) :
    Calls Tryz.prog 56 #[.func (.func 90) #[] #[.pointer (some ⟨w.heap.size, 0, none⟩)]] (w.alloc (.cells #[.map (some mb)] 40)) fun e w' => ∃ v, e = .returned v ∧
      w'.ownsRow (w.heap.size + 1) 9 1 v (keysL D).length ((keysL D).map encStr) ∧ Ch [] (w.alloc (.cells #[.map (some mb)] 40)) w' := by
  have hbl := hown.lt
  have hmax2 : Maps.size D ≤ maxLen := by unfold maxLen; omega
  have hbytes : Maps.size D * 16 ≤ 140737488355328 := by omega
  have hseq : SeqGives Fence.wide 2 Tryz.prog 90 #[.pointer (some ⟨w.heap.size, 0, none⟩)] encStr (fun ss => ss.Perm (strKeys D)) (Maps.size D) (w.alloc (.cells #[.map (some mb)] 40)) :=
    AnyZ.keys_gives (ρ := Tryz.keysS_ren) { Tryz.keysS with } Fence.wide _ trivial rfl (by omega) w.heap.size mb (Maps.size D) D _ (by simp) (by simp) (by
      obtain ⟨es, clock, hb, Ft, hs, hD⟩ := hown
      exact ⟨es, clock, (Below.heap_alloc _ _ mb hbl).trans hb, Ft, hs, hD⟩)
  have cS := AnyZ.sorted_in Tryz.sortedS Fence.wide 5 trivial trivial trivial trivial rfl (by omega) (Tryz.sortsS _) (enters_of Tryz.func89 (by kernel_rfl) rfl) 90 #[.pointer (some ⟨w.heap.size, 0, none⟩)] trivial (enters_of Tryz.func90 (by kernel_rfl) rfl) _ _ hmax2 hbytes _ hseq
  refine ((callsIn_wide (n := 5)).1 cS).mono ?_
  rintro e w' ⟨v, ss, rfl, hS, hrow, _, hb⟩
  have e1 : (w.alloc (.cells #[.map (some mb)] 40)).heap.size = w.heap.size + 1 := by simp
  have e2 : ss.mergeSort (fun x y => decide (x ≤ y)) = keysL D := mergeSort_of_perm hS
  have e3 : ss.length = (keysL D).length := by rw [hS.length_eq, (keysL_perm D).length_eq]
  refine ⟨v, rfl, ?_, Ch.of_below hb []⟩
  rw [← e1, ← e3, ← e2]
  exact hrow

/-! ### HasPrefix -/
theorem str_extract (s : List UInt8) (n : Nat) : (str s).extract 0 n = str (s.take n) := by
  apply ByteArray.ext
  simp [str]
theorem prefix_take (p s : List UInt8) : p.isPrefixOf s = (decide (p.length ≤ s.length) && decide (s.take p.length = p)) := by
  rw [Bool.eq_iff_iff]
  simp only [List.isPrefixOf_iff_prefix, Bool.and_eq_true, decide_eq_true_eq]
  constructor
  · intro h
    exact ⟨h.length_le, (List.prefix_iff_eq_take.1 h).symm⟩
  · rintro ⟨_, h⟩
    exact List.prefix_iff_eq_take.2 h.symm
theorem eql_str (l r : List UInt8) : binOp .eql 9 (.string (str l)) (.string (str r)) = pure (.bool (decide (l = r))) := by
  rw [binOp_string_eql, str_toList, str_toList]
  congr 2
  by_cases h : l = r
  · subst h; simp
  · simp [h]
set_option maxRecDepth 100000 in
theorem hasprefixL_any (s p : List UInt8) (w : World) :
    Calls Tryz.prog 91 #[.string (str s), .string (str p)] w fun e w' => e = .returned (.bool (p.isPrefixOf s)) ∧ w = w' := by
  rw [prefix_take]
  have e1 := str_size s
  have e2 := str_size p
  have hx := str_extract s p.length
  have hq := eql_str (s.take p.length) p
  generalize hS : str s = S at *
  generalize hP : str p = Q at *
  generalize s.take p.length = t at *
  generalize decide (t = p) = d at *
  generalize hsl : s.length = sl at *
  generalize hpl : p.length = pl at *
  clear hS hP hsl hpl
  go_enter Tryz.func91, Tryz.ntmps91
  by_cases hl : pl ≤ sl
  · go_wp2_with fail
    go_ret
    exact ⟨by simp [hl], rfl⟩
  · go_wp2_with fail
    go_ret
    exact ⟨by simp [hl], rfl⟩
set_option maxRecDepth 100000 in
theorem hasprefix_any (s p : List UInt8) (w : World) :
    Calls Tryz.prog 58 #[.string (str s), .string (str p)] w fun e w' => e = .returned (.bool (p.isPrefixOf s)) ∧ w = w' := by
  have h := hasprefixL_any s p w
  go_enter Tryz.func58, Tryz.ntmps58
  go_wp2_with fail
  refine h.mono ?_
  rintro e w' ⟨rfl, rfl⟩
  go_wp2_with fail
  go_ret
  exact ⟨rfl, rfl⟩

section
variable {sb lb um b g m n sz turn a : Nat} {X : List Nat} {D : Mp}
/-- The keys that begin so, in order. -/
def keysP (D : Mp) (p : List UInt8) : List (List UInt8) := (keysL D).filter (fun k => p.isPrefixOf k)
set_option maxRecDepth 100000 in
set_option maxHeartbeats 2000000 in
theorem stkeys_any (p : List UInt8) (w : World) (h : StoreS w sb lb um b g m X n sz turn a D) :
    Calls Tryz.prog 16 #[.pointer (some ⟨sb, 0, none⟩), .string (str p)] w fun e w' => ∃ v, e = .returned v ∧ w'.ownsRow w.heap.size 9 1 v (keysP D p).length ((keysP D p).map encStr) ∧ Ch [] w w' := by
  obtain ⟨mb, ps, h⟩ := h
  have hsz := h.size_le
  have c1 := cell_at h.cells 1 rfl
  have hk := keysS_any (some mb) w
  have hs := sortedS_any mb D w h.map (by omega)
  have hc0 : Ch [] w (w.alloc (.cells #[.map (some mb)] 40)) := (Ch.refl [] w).alloc _
  generalize hW0 : w.alloc (.cells #[.map (some mb)] 40) = w0 at *
  go_enter Tryz.func16, Tryz.ntmps16
  go_wp2_with fail
  refine hk.mono ?_
  rintro e w' ⟨rfl, rfl⟩
  clear hk hW0
  go_wp2_with fail
  refine hs.mono ?_
  rintro e w1 ⟨v, rfl, hrow, hc1⟩
  clear hs
  obtain ⟨A, c, rfl⟩ := own_slice hrow
  have hrd := own_rd hrow
  have hc01 := hc0.trans hc1 (by simp)
  have hlen : (keysL D).length ≤ 3000000 := by
    rw [(keysL_perm D).length_eq]
    obtain ⟨es, he⟩ := World.ownsMap.isMap h.map
    rw [he] at hsz ⊢
    simp only [strKeys, List.length_map]
    rw [size_eq] at hsz
    exact hsz
  obtain ⟨K, hK⟩ : ∃ K, keysL D = K := ⟨_, rfl⟩
  have hKP : keysP D p = K.filter (fun q => p.isPrefixOf q) := by unfold keysP; rw [hK]
  have HKP := Lib.hid hKP
  rw [hK] at hrow hrd hlen ⊢
  generalize hN : K.length = N at *
  have HN := Lib.hid hN
  clear hN hK hrow hKP
  go_wp2_with fail
  go_loopw [5, 15] (fun ov ki wr => ∃ k : Nat, k ≤ N ∧ ki = .int .i64 (k : Int) ∧ wr.ownsRow w1.heap.size 9 1 ov ((K.take k).filter (fun q => p.isPrefixOf q)).length (((K.take k).filter (fun q => p.isPrefixOf q)).map encStr) ∧ Ch [] w1 wr) (fun _ ki _ => N - (intOf ki).toNat)
  case atStart => exact ⟨0, by omega, rfl, by simpa using World.ownsRow_nil _ _ _ _, Ch.refl _ _⟩
  case round =>
    obtain ⟨k, hk, rfl, ho, hch⟩ := hrel
    obtain ⟨wA, hwA⟩ : ∃ W, W = wr := ⟨_, rfl⟩
    subst hwA
    by_cases hlt : k < N
    · have hkN : k < K.length := by have := HN.out; omega
      obtain ⟨pb, po, rfl, hcells⟩ := (hrd.keep hch (by simp)).cells (by omega)
      have hcell := hcells k (encStr K[k]) (by rw [List.getElem?_map, List.getElem?_eq_getElem hkN]; rfl)
      have e1 : (K.take (k + 1)).filter (fun q => p.isPrefixOf q) = (K.take k).filter (fun q => p.isPrefixOf q) ++ (if p.isPrefixOf K[k] then [K[k]] else []) := by
        rw [List.take_succ_eq_append_getElem hkN, List.filter_append]
        congr 1
        cases h : p.isPrefixOf K[k] <;> simp [h]
      have hll : ((K.take k).filter (fun q => p.isPrefixOf q)).length ≤ k := by
        have := List.length_filter_le (fun q => p.isPrefixOf q) (K.take k)
        rw [List.length_take] at this
        omega
      generalize (K.take k).filter (fun q => p.isPrefixOf q) = L at *
      generalize K[k] = x at *
      clear hcells
      have hp := hasprefix_any x p wA
      rw [show encStr x = Value.string (str x) from rfl] at hcell
      go_wp2_with fail
      refine hp.mono ?_
      rintro e w' ⟨rfl, rfl⟩
      clear hp
      have E1 := Lib.hid e1
      clear e1
      have hs1 := hc01.size
      have hs2 := hch.size
      cases hb : p.isPrefixOf x with
      | false =>
        go_wp2_with fail
        refine ⟨⟨k + 1, by omega, by go_num, by rw [E1.out, hb]; simpa using ho, hch⟩, ?_⟩
        simp [intOf]
        omega
      | true =>
        go_wp2_with (first
          | (at_builtin; refine app_one rfl (.tmp 22) (.tmp 24) 22 9 (.string ⟨#[]⟩) 16 rfl Tryz.underlying22 (by kernel_rfl) rfl _ _ (L.map encStr) _ rfl rfl rfl ho (by omega) (by omega) (by unfold maxLen; omega) ?_; intro v8 w8 h8 hgr8 hat8; have hc8 := hch.grown hgr8 (fun y hy => .inr (own_ge ho y hy)))
          | fail)
        refine ⟨⟨k + 1, by omega, by go_num, by rw [E1.out, hb, if_pos rfl, List.map_append, List.length_append]; exact h8, hc8⟩, ?_⟩
        simp [intOf]
        omega
    · obtain rfl : k = N := by omega
      rw [List.take_of_length_le (by have := HN.out; omega)] at ho
      clear hlt hk
      rw [← HKP.out] at ho
      obtain ⟨KP, hKQ⟩ : ∃ KP, keysP D p = KP := ⟨_, rfl⟩
      rw [hKQ] at ho
      have HKQ := Lib.hid hKQ
      clear hKQ
      obtain ⟨Ao, co, rfl⟩ := own_slice ho
      go_wp2_with fail
      go_ret
      have hKQ := HKQ.out
      subst hKQ
      exact ⟨_, rfl, own_rebase ho (fun y hy => by have := own_ge ho y hy; have := hc01.size; omega), hc01.trans hch (by simp)⟩
end

end Go.Proofs.YtbkncfedahifkaaGreat

/-
  Package store: Size.
-/
set_option linter.unusedVariables false
set_option linter.unusedSimpArgs false
namespace Go.Proofs.YtbkncfedahifkaaGreat
open Go.RowKit Go.Maps Go.Sort Go.Shelf

/-- How many bytes a key and its value have. -/
def wt (D : Mp) (k : List UInt8) : Nat := k.length + (getL D k).length
/-- All of them. -/
def sizeM (D : Mp) : Nat := ((strKeys D).map (wt D)).sum
theorem sum_perm {l l' : List Nat} (h : l.Perm l') : l.sum = l'.sum := by
  induction h with
  | nil => rfl
  | cons x _ ih => simp [ih]
  | swap x y l => simp only [List.sum_cons]; omega
  | trans _ _ h1 h2 => exact h1.trans h2

/-- Small keys, small values. -/
def Small (D : Mp) : Prop := ∀ k, has D (skey k) = true → k.length ≤ 1000 ∧ (getL D k).length ≤ 1000
theorem skey_ne {a b : List UInt8} (h : a ≠ b) : skey a ≠ skey b := by
  intro e
  simp only [skey, Lit.string.injEq] at e
  exact h e
theorem getL_put_same {D : Mp} (h : IsMap D) (k v : List UInt8) : getL (D.put (skey k) (.lit (.string v))) k = v := by
  unfold getL
  rw [atKey_put_same h (by trivial)]
theorem getL_put_other {D : Mp} {k k' : List UInt8} (h : k' ≠ k) (v : List UInt8) : getL (D.put (skey k) (.lit (.string v))) k' = getL D k' := by
  unfold getL
  rw [atKey_put_other (skey_ne h)]
theorem getL_del_same {D : Mp} (k : List UInt8) : getL (D.del (skey k)) k = [] := by
  unfold getL
  rw [atKey_del_same]
theorem getL_del_other {D : Mp} {k k' : List UInt8} (h : k' ≠ k) : getL (D.del (skey k)) k' = getL D k' := by
  unfold getL
  rw [atKey_del_other (skey_ne h)]
theorem small_chg {D : Mp} (h : Small D) (hm : IsMap D) {p : PairL} (hp : p.ok) : Small (chg D p) := by
  intro k hk
  unfold chg at hk ⊢
  by_cases e : k = p.k
  · subst e
    cases hg : p.gone with
    | true => rw [hg, if_pos rfl, has_del_same] at hk; cases hk
    | false => rw [if_neg (by simp), getL_put_same hm]; exact hp
  · cases hg : p.gone with
    | true =>
      rw [hg, if_pos rfl, has_del_other (skey_ne e)] at hk
      rw [if_pos rfl, getL_del_other e]
      exact h k hk
    | false =>
      rw [hg, if_neg (by simp), has_put_other (skey_ne e)] at hk
      rw [if_neg (by simp), getL_put_other e]
      exact h k hk
theorem isMap_chg {D : Mp} (h : IsMap D) (p : PairL) : IsMap (chg D p) := by
  unfold chg
  split
  · exact h.del _
  · exact h.put _ _
theorem small_chgs : ∀ {ps : List PairL} {D : Mp}, Small D → IsMap D → (∀ p ∈ ps, p.ok) → Small (chgs D ps)
  | [], D, h, hm, hp => h
  | p :: ps, D, h, hm, hp => small_chgs (D := chg D p) (small_chg h hm (hp p (by simp))) (isMap_chg hm p) (fun q hq => hp q (by simp [hq]))
theorem small_empty : Small (.map []) := fun k hk => by cases hk
theorem StoreS.small {w : World} {sb lb um b g m n sz turn a : Nat} {X : List Nat} {D : Mp} (h : StoreS w sb lb um b g m X n sz turn a D) : Small D := by
  obtain ⟨mb, ps, h⟩ := h
  have := small_chgs small_empty isMap_empty h.ok
  rw [h.is] at this
  exact this

section
variable {sb lb um b g m n sz turn a : Nat} {X : List Nat} {D : Mp}
set_option maxRecDepth 100000 in
set_option maxHeartbeats 2000000 in
theorem stsize_any (w : World) (h : StoreS w sb lb um b g m X n sz turn a D) :
    Calls Tryz.prog 17 #[.pointer (some ⟨sb, 0, none⟩)] w fun e w' => e = .returned (.int .i64 (sizeM D : Int)) ∧ Ch [] w w' := by
  have hsm := h.small
  obtain ⟨mb, ps, h⟩ := h
  have hsz := h.size_le
  have c1 := cell_at h.cells 1 rfl
  have hM := h.map
  have hlt := hM.lt
  unfold IsM at hM
  generalize hN : Maps.size D = N at *
  have HSM := Lib.hid hsm
  clear hsm h
  go_enter Tryz.func17, Tryz.ntmps17
  go_wp2_with (first | (at_range; refine wpList_range_own (H := Value) _ rfl _ 40 rfl 9 9 skeyed Tryz.underlying40 (plainElem Tryz.prog 9) mb N D rfl hM ?_; intro w0 hrg0 hg0 hs0) | fail)
  go_frame
  rw [hN] at hrg0
  have hc0 : Ch [] w w0 := (Ch.refl _ _).grown hg0 (by simp)
  generalize hr : w.heap.size = r at *
  go_loopw [3] (fun nv wr => ∃ (left : Lit → Bool) (cnt : Nat) (ss : List (List UInt8)), wr.ranges Tryz.prog 9 (plainElem Tryz.prog 9) mb r N D left cnt ∧ Collected D left ss ∧ nv = .int .i64 (((ss.map (wt D)).sum : Nat) : Int) ∧ (ss.map (wt D)).sum ≤ 2000 * ss.length ∧ ss.length + cnt ≤ N ∧ Ch [r] w0 wr)
    (fun _ wr => wr.rangeLeft mb r)
  case atStart => exact ⟨_, _, [], hrg0, Collected.start D, rfl, by simp, by simp, Ch.refl _ _⟩
  case round =>
    clear hrg0 hg0
    obtain ⟨left, cnt, ss, hrg, hC, rfl, hb1, hb2, hch⟩ := hrel
    obtain ⟨wA, hwA⟩ : ∃ W, W = wr := ⟨_, rfl⟩
    subst hwA
    have HC := Lib.hid hC
    clear hC
    have hrl := hrg.left_eq
    go_wp2_with (first | (at_next; refine wpList_next_ranges _ rfl _ rfl 9 skeyed (plainElem Tryz.prog 9) (fun (l : List UInt8) => Value.string (str l)) Value.string (fun key kl hk => by obtain ⟨x, rfl, _⟩ := Maps.keyOf_str Tryz.underlying9 hk; exact ⟨x, rfl⟩) (fun v y hv => by obtain ⟨c, rfl, _⟩ := plainElem_string_inv Tryz.underlying9 hv; exact ⟨c, rfl⟩) mb r N D left cnt rfl hrg ?_ ?_) | fail)
    · intro _ hl0
      have hp := HC.out.perm hM skeyed Tryz.underlying9 hl0
      have he : (ss.map (wt D)).sum = sizeM D := sum_perm (hp.map _)
      generalize (ss.map (wt D)).sum = S at *
      subst he
      go_wp2_with fail
      go_ret
      exact ⟨rfl, hc0.trans hch (by simp; omega)⟩
    · intro x cv kl y yp w1 cnt1 hkey hlk hR hat hrg1 hlt1 hg1 hs1 hen
      obtain ⟨x', ex, rfl, hwf⟩ := Maps.keyOf_str Tryz.underlying9 hkey
      have ex2 : x = x' := encStr_inj ex
      subst ex2
      obtain ⟨c', ec, ey, hwc⟩ := plainElem_string_inv Tryz.underlying9 hR
      cases ec
      simp only [Prod.mk.injEq] at ey
      obtain ⟨rfl, rfl⟩ := ey
      have hC2 := HC.out.step (y := .lit (.string cv.data.toList)) hlk hat
      have hhas : has D (skey x) = true := has_true_of_atKey hat
      have hgl : getL D x = cv.data.toList := by unfold getL; rw [show skey x = Lit.string x from rfl, hat]
      have hsm := HSM.out x hhas
      have hw : wt D x = (str x).size + cv.size := by unfold wt; rw [hgl, str_size]; simp
      have hsum : ((ss ++ [x]).map (wt D)).sum = (ss.map (wt D)).sum + ((str x).size + cv.size) := by rw [List.map_append, List.sum_append]; simp [hw]
      have hsb : (str x).size + cv.size ≤ 2000 := by rw [← hw]; unfold wt; omega
      have hll : (ss ++ [x]).length = ss.length + 1 := by simp
      have HSUM := Lib.hid hsum
      have HC2 := Lib.hid hC2
      have HLL := Lib.hid hll
      clear hsum hC2 hgl hhas hsm hw hkey ex hR hll hat
      generalize (ss.map (wt D)).sum = S at *
      have hch1 : Ch [r] w0 w1 := hch.grown hg1 (by intro k hk; cases hk; exact .inl (by simp))
      go_wp2_with fail
      refine ⟨⟨_, cnt1, ss ++ [x], hrg1, HC2.out, ?_, ?_, ?_, hch1⟩, ?_⟩
      · rw [HSUM.out]; go_num
      · rw [HSUM.out, HLL.out]; omega
      · rw [HLL.out]; omega
      · rw [hrg1.left_eq, hrl]; omega
end

end Go.Proofs.YtbkncfedahifkaaGreat

/-
  haversackhelp.Strings; slices of strings that are read; what a key's order comes to.
-/
set_option linter.unusedVariables false
set_option linter.unusedSimpArgs false
namespace Go.Proofs.YtbkncfedahifkaaGreat
open Go.RowKit Go.Maps Go.Sort Go.Shelf

theorem neq_str (l r : List UInt8) : binOp .neq 9 (.string (str l)) (.string (str r)) = pure (.bool (!decide (l = r))) := by
  rw [binOp_string_neq]
  congr 2
  by_cases h : l = r
  · subst h; simp
  · have : ¬ (str l).toList = (str r).toList := fun e => h (by simpa [str_toList] using e)
    simp [h, this]
theorem strs_cell {w : World} {A : Option Addr} {n c : Nat} {K : List (List UInt8)} (h : Rd 1 w A n c (K.map encStr)) (k : Nat) (hk : k < K.length) : ∃ b o, A = some ⟨b, o, none⟩ ∧ w.cell? ⟨b, o + k, none⟩ = some (.string (str K[k])) := by
  have hl := h.len
  rw [List.length_map] at hl
  obtain ⟨b, o, e, hc⟩ := h.cells (by omega)
  exact ⟨b, o, e, hc k _ (by rw [List.getElem?_map, List.getElem?_eq_getElem hk]; rfl)⟩
theorem keysL_is {D : Mp} {K : List (List UInt8)} (hp : K.Perm (strKeys D)) (hs : K.Pairwise (fun a b => a ≤ b)) : keysL D = K := by
  unfold keysL
  rw [← mergeSort_of_perm hp]
  exact List.mergeSort_of_pairwise (hs.imp (fun {a b} h => by simpa [leB] using h))
/-- Pairs in a block. -/
theorem pairs_block {w : World} {x : Nat} {t : TypeId} {fr : Nat × Nat} (ps : List PairL) (h : w.heap[x]? = some (.cells (ps.flatMap PairL.cells).toArray t fr)) (hl : ps.length ≤ maxLen) : Rd 3 w (some ⟨x, 0, none⟩) ps.length ps.length (ps.flatMap PairL.cells) :=
  ⟨flatMap_even PairL.cells 3 (fun _ => rfl) ps, Nat.le_refl _, hl, fun _ => ⟨x, 0, rfl, fun j u hu => by
    rw [Nat.zero_add]
    exact cell_at h j (by simpa using hu)⟩⟩

set_option maxRecDepth 100000 in
set_option maxHeartbeats 1000000 in
theorem strings_any (A A' : Option Addr) (n n' c c' : Nat) (K K' : List (List UInt8)) (w : World) (h : Rd 1 w A n c (K.map encStr)) (h' : Rd 1 w A' n' c' (K'.map encStr)) (hn : n ≤ 1000000000) (hn' : n' ≤ 1000000000) :
    Calls Tryz.prog 46 #[.slice A n c, .slice A' n' c'] w fun e w' => e = .returned (.bool (decide (K = K'))) ∧ Ch [] w w' := by
  have hl : K.length = n := by have := h.len; simpa using this
  have hl' : K'.length = n' := by have := h'.len; simpa using this
  go_enter Tryz.func46, Tryz.ntmps46
  by_cases hne : n = n'
  · subst hne
    go_wp2_with fail
    go_loopw [5] (fun ki wr => ∃ k : Nat, k ≤ n ∧ ki = .int .i64 (k : Int) ∧ K.take k = K'.take k ∧ Ch [] w wr) (fun ki _ => n - (intOf ki).toNat)
    case atStart => exact ⟨0, by omega, rfl, by simp, Ch.refl _ _⟩
    case round =>
      obtain ⟨k, hk, rfl, hT, hch⟩ := hrel
      obtain ⟨wA, hwA⟩ : ∃ W, W = wr := ⟨_, rfl⟩
      subst hwA
      by_cases hlt : k < n
      · obtain ⟨b1, o1, rfl, hc1⟩ := strs_cell (h.keep hch (by simp)) k (by omega)
        obtain ⟨b2, o2, rfl, hc2⟩ := strs_cell (h'.keep hch (by simp)) k (by omega)
        have e1 := List.take_succ_eq_append_getElem (l := K) (i := k) (by omega)
        have e2 := List.take_succ_eq_append_getElem (l := K') (i := k) (by omega)
        generalize hx : K[k]'(by omega) = x at *
        generalize hy : K'[k]'(by omega) = y at *
        have hnq := neq_str x y
        have E1 := Lib.hid e1
        have E2 := Lib.hid e2
        have HT := Lib.hid hT
        have HX := Lib.hid hx
        have HY := Lib.hid hy
        clear e1 e2 hT hx hy
        by_cases hxy : x = y
        · subst hxy
          simp only [decide_true, Bool.not_true] at hnq
          go_wp2_with fail
          refine dr_begin (by kernel_rfl) ?_
          refine dr_more (fun W => W.cell? ⟨b1, o1 + k, none⟩ = some (.string (str x)) ∧ W.cell? ⟨b2, o2 + k, none⟩ = some (.string (str x))) ?_
          have hT : True ∧ (wA.drew.cell? ⟨b1, o1 + k, none⟩ = some (.string (str x)) ∧ wA.drew.cell? ⟨b2, o2 + k, none⟩ = some (.string (str x))) := ⟨trivial, hc1, hc2⟩
          refine dr_take 0 (some 17) (v := ?_) rfl rfl (by kernel_rfl) (by kernel_rfl) (by kernel_rfl) (fun _ _ _ h => h) rfl hT (fun W _ => ?_) ?_
          rotate_left
          · (go_simp; try with_reducible rfl)
          try simp only [Act.put, List.setIfInBounds_toArray, List.set_cons_zero, List.set_cons_succ]
          refine dr_take 1 (some 18) (v := ?_) rfl rfl (by kernel_rfl) (by kernel_rfl) (by kernel_rfl) (fun _ _ _ h => h) rfl hT (fun W _ => ?_) ?_
          rotate_left
          · (go_simp; try with_reducible rfl)
          try simp only [Act.put, List.setIfInBounds_toArray, List.set_cons_zero, List.set_cons_succ]
          refine dr_take 2 (some 19) (v := ?_) rfl rfl (by kernel_rfl) (by kernel_rfl) (by kernel_rfl) (fun _ _ _ h => h) rfl hT (fun W _ => ?_) ?_
          rotate_left
          · (go_simp; try with_reducible rfl)
          try simp only [Act.put, List.setIfInBounds_toArray, List.set_cons_zero, List.set_cons_succ]
          refine dr_take 3 (some 20) (v := ?_) rfl rfl (by kernel_rfl) (by kernel_rfl) (by kernel_rfl) (fun _ _ _ h => h) rfl hT (fun W hW => ?_) ?_
          rotate_left
          · (have h1 := hW.2.1; go_simp; try with_reducible rfl)
          try simp only [Act.put, List.setIfInBounds_toArray, List.set_cons_zero, List.set_cons_succ]
          refine dr_take 4 (some 21) (v := ?_) rfl rfl (by kernel_rfl) (by kernel_rfl) (by kernel_rfl) (fun _ _ _ h => h) rfl hT (fun W _ => ?_) ?_
          rotate_left
          · (go_simp; try with_reducible rfl)
          try simp only [Act.put, List.setIfInBounds_toArray, List.set_cons_zero, List.set_cons_succ]
          refine dr_take 5 (some 22) (v := ?_) rfl rfl (by kernel_rfl) (by kernel_rfl) (by kernel_rfl) (fun _ _ _ h => h) rfl hT (fun W _ => ?_) ?_
          rotate_left
          · (go_simp; try with_reducible rfl)
          try simp only [Act.put, List.setIfInBounds_toArray, List.set_cons_zero, List.set_cons_succ]
          refine dr_take 6 (some 23) (v := ?_) rfl rfl (by kernel_rfl) (by kernel_rfl) (by kernel_rfl) (fun _ _ _ h => h) rfl hT (fun W _ => ?_) ?_
          rotate_left
          · (go_simp; try with_reducible rfl)
          try simp only [Act.put, List.setIfInBounds_toArray, List.set_cons_zero, List.set_cons_succ]
          refine dr_take 7 (some 24) (v := ?_) rfl rfl (by kernel_rfl) (by kernel_rfl) (by kernel_rfl) (fun _ _ _ h => h) rfl hT (fun W hW => ?_) ?_
          rotate_left
          · (have h1 := hW.2.2; go_simp; try with_reducible rfl)
          try simp only [Act.put, List.setIfInBounds_toArray, List.set_cons_zero, List.set_cons_succ]
          refine dr_take 8 (some 25) (v := ?_) rfl rfl (by kernel_rfl) (by kernel_rfl) (by kernel_rfl) (fun _ _ _ h => h) rfl hT (fun W _ => ?_) ?_
          rotate_left
          · (go_simp; try with_reducible rfl)
          try simp only [Act.put, List.setIfInBounds_toArray, List.set_cons_zero, List.set_cons_succ]
          refine dr_done (by kernel_rfl) ?_
          go_wp2_with fail
          refine ⟨⟨k + 1, by omega, by go_num, by rw [E1.out, E2.out, HT.out], hch.drew⟩, ?_⟩
          simp [intOf]
          omega
        · simp only [hxy, decide_false, Bool.not_false] at hnq
          go_wp2_with fail
          refine dr_begin (by kernel_rfl) ?_
          refine dr_more (fun W => W.cell? ⟨b1, o1 + k, none⟩ = some (.string (str x)) ∧ W.cell? ⟨b2, o2 + k, none⟩ = some (.string (str y))) ?_
          have hT : True ∧ (wA.drew.cell? ⟨b1, o1 + k, none⟩ = some (.string (str x)) ∧ wA.drew.cell? ⟨b2, o2 + k, none⟩ = some (.string (str y))) := ⟨trivial, hc1, hc2⟩
          refine dr_take 0 (some 17) (v := ?_) rfl rfl (by kernel_rfl) (by kernel_rfl) (by kernel_rfl) (fun _ _ _ h => h) rfl hT (fun W _ => ?_) ?_
          rotate_left
          · (go_simp; try with_reducible rfl)
          try simp only [Act.put, List.setIfInBounds_toArray, List.set_cons_zero, List.set_cons_succ]
          refine dr_take 1 (some 18) (v := ?_) rfl rfl (by kernel_rfl) (by kernel_rfl) (by kernel_rfl) (fun _ _ _ h => h) rfl hT (fun W _ => ?_) ?_
          rotate_left
          · (go_simp; try with_reducible rfl)
          try simp only [Act.put, List.setIfInBounds_toArray, List.set_cons_zero, List.set_cons_succ]
          refine dr_take 2 (some 19) (v := ?_) rfl rfl (by kernel_rfl) (by kernel_rfl) (by kernel_rfl) (fun _ _ _ h => h) rfl hT (fun W _ => ?_) ?_
          rotate_left
          · (go_simp; try with_reducible rfl)
          try simp only [Act.put, List.setIfInBounds_toArray, List.set_cons_zero, List.set_cons_succ]
          refine dr_take 3 (some 20) (v := ?_) rfl rfl (by kernel_rfl) (by kernel_rfl) (by kernel_rfl) (fun _ _ _ h => h) rfl hT (fun W hW => ?_) ?_
          rotate_left
          · (have h1 := hW.2.1; go_simp; try with_reducible rfl)
          try simp only [Act.put, List.setIfInBounds_toArray, List.set_cons_zero, List.set_cons_succ]
          refine dr_take 4 (some 21) (v := ?_) rfl rfl (by kernel_rfl) (by kernel_rfl) (by kernel_rfl) (fun _ _ _ h => h) rfl hT (fun W _ => ?_) ?_
          rotate_left
          · (go_simp; try with_reducible rfl)
          try simp only [Act.put, List.setIfInBounds_toArray, List.set_cons_zero, List.set_cons_succ]
          refine dr_take 5 (some 22) (v := ?_) rfl rfl (by kernel_rfl) (by kernel_rfl) (by kernel_rfl) (fun _ _ _ h => h) rfl hT (fun W _ => ?_) ?_
          rotate_left
          · (go_simp; try with_reducible rfl)
          try simp only [Act.put, List.setIfInBounds_toArray, List.set_cons_zero, List.set_cons_succ]
          refine dr_take 6 (some 23) (v := ?_) rfl rfl (by kernel_rfl) (by kernel_rfl) (by kernel_rfl) (fun _ _ _ h => h) rfl hT (fun W _ => ?_) ?_
          rotate_left
          · (go_simp; try with_reducible rfl)
          try simp only [Act.put, List.setIfInBounds_toArray, List.set_cons_zero, List.set_cons_succ]
          refine dr_take 7 (some 24) (v := ?_) rfl rfl (by kernel_rfl) (by kernel_rfl) (by kernel_rfl) (fun _ _ _ h => h) rfl hT (fun W hW => ?_) ?_
          rotate_left
          · (have h1 := hW.2.2; go_simp; try with_reducible rfl)
          try simp only [Act.put, List.setIfInBounds_toArray, List.set_cons_zero, List.set_cons_succ]
          refine dr_take 8 (some 25) (v := ?_) rfl rfl (by kernel_rfl) (by kernel_rfl) (by kernel_rfl) (fun _ _ _ h => h) rfl hT (fun W _ => ?_) ?_
          rotate_left
          · (go_simp; try with_reducible rfl)
          try simp only [Act.put, List.setIfInBounds_toArray, List.set_cons_zero, List.set_cons_succ]
          refine dr_done (by kernel_rfl) ?_
          go_wp2_with fail
          go_ret
          refine ⟨?_, hch.drew⟩
          have hne : K ≠ K' := fun e => hxy (by rw [← HX.out, ← HY.out]; simp [e])
          simp [hne]
      · obtain rfl : k = n := by omega
        clear hlt hk
        go_wp2_with fail
        go_ret
        refine ⟨?_, hch⟩
        have he : K = K' := by
          rw [List.take_of_length_le (by omega), List.take_of_length_le (by omega)] at hT
          exact hT
        simp [he]
  · go_wp2_with fail
    go_ret
    refine ⟨?_, Ch.refl _ _⟩
    have he : K ≠ K' := fun e => hne (by rw [← hl, ← hl', e])
    simp [he]

end Go.Proofs.YtbkncfedahifkaaGreat

/-
  The statements of layer 5: what fits; a new store; known.
-/
set_option linter.unusedVariables false
set_option linter.unusedSimpArgs false
namespace Go.Proofs.YtbkncfedahifkaaGreat
open Go.RowKit Go.Maps Go.Sort Go.Shelf

theorem bodyB_le : ∀ (rs : List (List UInt8)) (M : Nat), (∀ r ∈ rs, r.length ≤ M) → (bodyB rs).length ≤ rs.length * (4 + M)
  | [], M, h => by simp [bodyB]
  | r :: rs, M, h => by
    have h1 := bodyB_le rs M (fun x hx => h x (by simp [hx]))
    have h2 := h r (by simp)
    rw [bodyB_cons, List.length_cons, Nat.add_mul, Nat.one_mul]
    omega
theorem commitE_fit (n sz a : Nat) (rs : List (List UInt8)) (h : ∀ r ∈ rs, r.length ≤ 1000000) (hf : 32 + (bodyB rs).length ≤ (n / 2 - a) * (sz - 16)) : commitE n sz a rs = 0 := by
  unfold commitE
  rw [if_neg, if_pos hf]
  intro hx
  obtain ⟨r, h1, h2⟩ := List.any_eq_true.1 hx
  have := h r h1
  simp [longB] at h2
  omega
theorem encP_le {p : PairL} {a b : Nat} (h : p.ok) (h1 : p.k.length ≤ a) (h2 : p.v.length ≤ b) : (encP p).length ≤ 21 + a + b := by
  have q1 := encT_len p.k (by have := h.1; omega)
  have q2 := encT_len p.v (by have := h.2; omega)
  have h5 : (encB p.gone).length = 1 := rfl
  unfold encP
  rw [List.length_append, List.length_append, h5]
  split
  · simp; omega
  · omega
theorem encPs_le {ps : List PairL} {a b : Nat} (h : ∀ p ∈ ps, p.ok ∧ p.k.length ≤ a ∧ p.v.length ≤ b) : ∀ r ∈ ps.map encP, r.length ≤ 21 + a + b := by
  intro r hr
  obtain ⟨p, hp, rfl⟩ := List.mem_map.1 hr
  exact encP_le (h p hp).1 (h p hp).2.1 (h p hp).2.2
/-- Pairs that fit. -/
theorem commitP_fit (n sz a A B : Nat) (ps : List PairL) (h : ∀ p ∈ ps, p.ok ∧ p.k.length ≤ A ∧ p.v.length ≤ B) (hAB : A + B ≤ 5000) (hf : 32 + ps.length * (25 + A + B) ≤ (n / 2 - a) * (sz - 16)) : commitE n sz a (ps.map encP) = 0 := by
  have h1 := encPs_le h
  have h2 := bodyB_le (ps.map encP) (21 + A + B) h1
  rw [List.length_map] at h2
  have h3 : ps.length * (4 + (21 + A + B)) = ps.length * (25 + A + B) := by congr 1; omega
  exact commitE_fit n sz a _ (fun r hr => by have := h1 r hr; omega) (by omega)
theorem lenP_le (sz A B k : Nat) (ps : List PairL) (h : ∀ p ∈ ps, p.ok ∧ p.k.length ≤ A ∧ p.v.length ≤ B) (hs : 128 ≤ sz) (hf : 32 + ps.length * (25 + A + B) ≤ k * (sz - 16)) : lenF sz (ps.map encP) ≤ k := by
  have h1 := encPs_le h
  have h2 := bodyB_le (ps.map encP) (21 + A + B) h1
  rw [List.length_map] at h2
  have h3 : ps.length * (4 + (21 + A + B)) = ps.length * (25 + A + B) := by congr 1; omega
  exact secsN_le (sz - 16) _ k (by omega) (by omega)

theorem newdiskS_any (n sz : Nat) (X : List Nat) (w : World) (hX : ∀ x ∈ X, x < w.heap.size) (hn0 : 1 ≤ n) (hn1 : n ≤ 4096) (hs0 : 64 ≤ sz) (hs1 : sz ≤ 4096) :
    Calls Tryz.prog 14 #[.int .i64 (n : Int), .int .i64 (sz : Int)] w fun e w' => ∃ b g m, e = .returned (.pointer (some ⟨b, 0, none⟩)) ∧ w.heap.size ≤ b ∧ w.heap.size ≤ g ∧ w.heap.size ≤ m ∧
      (b < w'.heap.size ∧ g < w'.heap.size ∧ m < w'.heap.size) ∧ StoreD w' b g m X n sz 0 0 (.map []) ∧ Ch [] w w' := by
  refine (newdisk_any n sz X w hX hn0 hn1 hs0 hs1).mono ?_
  rintro e w1 ⟨b, g, m, rfl, h1, h2, h3, h4, h5⟩
  exact ⟨b, g, m, rfl, h1, h2, h3, h4.lts, ⟨[], h4, rfl, by simp⟩, h5⟩

def kps : List PairL := [⟨[97], [49], false⟩, ⟨[98], [50, 50], false⟩]
def kD : Mp := chgs (.map []) kps
theorem kD_ok : ∀ p ∈ kps, p.ok ∧ p.k.length ≤ 1 ∧ p.v.length ≤ 2 := by
  intro p hp
  simp only [kps, List.mem_cons, List.not_mem_nil, or_false] at hp
  rcases hp with rfl | rfl <;> simp [PairL.ok]
theorem kD_keys : strKeys kD = [[97], [98]] := by decide +kernel
theorem kD_b : getL kD [98] = [50, 50] := by decide +kernel
theorem kD_has : has kD (skey [98]) = true ∧ has kD (skey [99]) = false := by decide +kernel
theorem kD_size : sizeM kD = 5 := by decide +kernel
theorem kD_a : keysP kD [97] = [[97]] := by
  unfold keysP
  rw [keysL_is (K := [[97], [98]]) (by rw [kD_keys]) (by simp; decide)]
  decide

set_option maxRecDepth 100000 in
set_option maxHeartbeats 2000000 in
theorem known5 (w : World) : Calls Tryz.prog 12 #[] w fun e w' => e = .returned (.bool true) ∧ Ch [] w w' := by
  have hnd := newdiskS_any 200 256 [] w (by simp) (by omega) (by omega) (by omega) (by omega)
  rw [show ((200 : Nat) : Int) = 200 from rfl, show ((256 : Nat) : Int) = 256 from rfl] at hnd
  go_enter Tryz.func12, Tryz.ntmps12
  go_wp2_with fail
  refine hnd.mono ?_
  rintro e w1 ⟨b, g, m, rfl, hb, hg, hm, hlt, hd1, hc1⟩
  clear hnd
  have ho := stopen_any w1 hd1 (by simp) (by omega) (by omega) (by omega)
  go_wp2_with fail
  refine ho.mono ?_
  rintro e w2 ⟨sb, lb, um, rfl, hsb, hlb, hum, hs2, hc2⟩
  clear ho hd1
  have ha := stapply_any (some ⟨w2.heap.size, 0, none⟩) 2 2 kps (w2.alloc (.cells #[.string ⟨#[97]⟩, .string ⟨#[49]⟩, .bool false, .string ⟨#[98]⟩, .string ⟨#[50, 50]⟩, .bool false] 32)) (hs2.nil ((Ch.refl [] w2).alloc _)) (by simp) (pairs_block kps (heap_alloc_new w2 _) (by decide)) rfl (by omega) (fun p hp => (kD_ok p hp).1) (by omega) (commitP_fit 200 256 0 1 2 kps kD_ok (by omega) (by decide))
  go_wp2_with fail
  refine ha.mono ?_
  rintro e w3 ⟨rfl, hs3, hc3⟩
  clear ha
  have ho3 := hs3.out
  have hcw3 : Ch [] w w3 := ((hc1.trans hc2 (by simp)).trans ((Ch.refl [] w2).alloc _) (by simp)).trans hc3 (by have := hc1.size; intro y hy; simp at hy; omega)
  have hD3 : chgs (.map []) kps = kD := rfl
  rw [hD3] at hs3
  have ho := stopen_any w3 hs3.disk (by simp; omega) (by omega) (by omega) (by omega)
  go_wp2_with fail
  refine ho.mono ?_
  rintro e w4 ⟨sb2, lb2, um2, rfl, hsb2, hlb2, hum2, hs4, hc4⟩
  clear ho hs3 hs2 hc3
  have g1 := stget_any (str [98]) w4 hs4 (by rw [str_size]; simp)
  rw [str_data, kD_b, kD_has.1] at g1
  have g2 := stget_any (str [99]) w4 hs4 (by rw [str_size]; simp)
  rw [str_data, kD_has.2] at g2
  go_wp2_with fail
  refine g1.mono ?_
  rintro e w' ⟨rfl, rfl⟩
  go_wp2_with fail
  refine g2.mono ?_
  rintro e w' ⟨rfl, rfl⟩
  clear g1 g2
  have hk := stkeys_any [97] w4 hs4
  rw [kD_a] at hk
  have hq : binOp .eql 9 (.string (str [50, 50])) (.string ⟨#[50, 50]⟩) = pure (.bool true) := eql_str_yes _ _
  go_wp2_with fail
  refine hk.mono ?_
  rintro e w5 ⟨v5, rfl, hr5, hc5⟩
  clear hk
  obtain ⟨A5, c5, rfl⟩ := own_slice hr5
  have hw6 : Ch [] w5 (w5.alloc (.cells #[.string ⟨#[97]⟩] 9)) := (Ch.refl [] w5).alloc _
  have hb6 : Rd 1 (w5.alloc (.cells #[.string ⟨#[97]⟩] 9)) (some ⟨w5.heap.size, 0, none⟩) 1 1 ([[97]].map encStr) := rd_one w5 (.string ⟨#[97]⟩) 9
  have hst := strings_any A5 (some ⟨w5.heap.size, 0, none⟩) 1 1 c5 1 [[97]] [[97]] _ ((own_rd hr5).keep hw6 (by simp)) hb6 (by omega) (by omega)
  simp only [decide_true] at hst
  go_wp2_with fail
  refine hst.mono ?_
  rintro e w6 ⟨rfl, hc6⟩
  clear hst
  have hc46 := (hc5.trans hw6 (by simp)).trans hc6 (by simp)
  have hsz := stsize_any w6 (hs4.nil hc46)
  rw [kD_size, show ((5 : Nat) : Int) = 5 from rfl] at hsz
  go_wp2_with fail
  refine hsz.mono ?_
  rintro e w7 ⟨rfl, hc7⟩
  clear hsz
  have hdn := stdown_any w7 ((hs4.nil hc46).nil hc7)
  go_wp2_with fail
  refine hdn.mono ?_
  rintro e w' ⟨rfl, rfl⟩
  go_wp2_with fail
  go_ret
  exact ⟨rfl, ((hcw3.trans hc4 (by simp)).trans hc46 (by simp)).trans hc7 (by simp)⟩

end Go.Proofs.YtbkncfedahifkaaGreat

/-
  Package store, the plain law: keys that were put in, each once; the order of keys.
-/
set_option linter.unusedVariables false
set_option linter.unusedSimpArgs false
namespace Go.Proofs.YtbkncfedahifkaaGreat
open Go.RowKit Go.Maps Go.Sort Go.Shelf

/-- Those of the first k that are there for the first time. -/
def ddk (L : List (List UInt8)) : Nat → List (List UInt8)
  | 0 => []
  | k + 1 => if L.getD k [] ∈ L.take k then ddk L k else ddk L k ++ [L.getD k []]
theorem getD_at (L : List (List UInt8)) (k : Nat) (hk : k < L.length) : L.getD k [] = L[k] := by simp [List.getD, hk]
theorem take_at (L : List (List UInt8)) (k : Nat) (hk : k < L.length) : L.take (k + 1) = L.take k ++ [L.getD k []] := by rw [List.take_succ_eq_append_getElem hk, getD_at L k hk]
theorem mem_ddk (L : List (List UInt8)) : ∀ k, k ≤ L.length → ∀ x, x ∈ ddk L k ↔ x ∈ L.take k
  | 0, _, x => by simp [ddk]
  | k + 1, hk, x => by
    have ih := mem_ddk L k (by omega) x
    rw [take_at L k (by omega), ddk]
    split
    · rename_i hm
      rw [ih, List.mem_append, List.mem_singleton]
      constructor
      · exact .inl
      · rintro (h | rfl)
        · exact h
        · exact hm
    · rw [List.mem_append, List.mem_append, ih]
theorem nodup_ddk (L : List (List UInt8)) : ∀ k, k ≤ L.length → (ddk L k).Nodup
  | 0, _ => List.nodup_nil
  | k + 1, hk => by
    have ih := nodup_ddk L k (by omega)
    rw [ddk]
    split
    · exact ih
    · rename_i hm
      rw [List.nodup_append]
      refine ⟨ih, by simp, fun a ha b hb => ?_⟩
      rw [List.mem_singleton] at hb
      subst hb
      rintro rfl
      exact hm ((mem_ddk L k (by omega) _).1 ha)

theorem IsM.perm {w : World} {mb : Nat} {D : Mp} (h : IsM w mb D) {ss : List (List UInt8)} (hn : ss.Nodup) (hm : ∀ x, x ∈ ss ↔ has D (skey x) = true) : ss.Perm (strKeys D) :=
  Collected.perm (left := fun _ => false) ⟨hn, fun x => by rw [hm x]; simp [skey]⟩ h skeyed Tryz.underlying9 (fun _ => rfl)
theorem StoreS.perm {w : World} {sb lb um b g m n sz turn a : Nat} {X : List Nat} {D : Mp} (h : StoreS w sb lb um b g m X n sz turn a D) {ss : List (List UInt8)} (hn : ss.Nodup) (hm : ∀ x, x ∈ ss ↔ has D (skey x) = true) : ss.Perm (strKeys D) := by
  obtain ⟨mb, ps, h⟩ := h
  exact h.map.perm hn hm

/-- What puts comes to. -/
theorem has_puts : ∀ (ps : List PairL) (D : Mp), IsMap D → (∀ p ∈ ps, p.gone = false) → ∀ y, has (chgs D ps) (skey y) = true ↔ has D (skey y) = true ∨ ∃ p ∈ ps, p.k = y
  | [], D, hm, hg, y => by simp [chgs]
  | p :: ps, D, hm, hg, y => by
    have h1 := has_puts ps (chg D p) (isMap_chg hm p) (fun q hq => hg q (by simp [hq])) y
    have e : chgs D (p :: ps) = chgs (chg D p) ps := rfl
    rw [e, h1]
    have hp : p.gone = false := hg p (by simp)
    have h2 : has (chg D p) (skey y) = true ↔ has D (skey y) = true ∨ p.k = y := by
      unfold chg
      rw [hp, if_neg (by simp)]
      by_cases hy : y = p.k
      · subst hy
        rw [has_put_same hm (by trivial)]
        simp
      · rw [has_put_other (skey_ne hy)]
        constructor
        · exact .inl
        · rintro (h | h)
          · exact h
          · exact absurd h.symm hy
    rw [h2]
    simp only [List.mem_cons, exists_eq_or_imp]
    constructor
    · rintro ((h | h) | h)
      · exact .inl h
      · exact .inr (.inl h)
      · exact .inr (.inr h)
    · rintro (h | h | h)
      · exact .inl (.inl h)
      · exact .inl (.inr h)
      · exact .inr h
theorem getL_nils : ∀ (ps : List PairL) (D : Mp), IsMap D → (∀ p ∈ ps, p.gone = false ∧ p.v = []) → (∀ y, getL D y = []) → ∀ y, getL (chgs D ps) y = []
  | [], D, hm, hg, h, y => h y
  | p :: ps, D, hm, hg, h, y => by
    have e : chgs D (p :: ps) = chgs (chg D p) ps := rfl
    rw [e]
    refine getL_nils ps (chg D p) (isMap_chg hm p) (fun q hq => hg q (by simp [hq])) (fun z => ?_) y
    unfold chg
    rw [(hg p (by simp)).1, if_neg (by simp), (hg p (by simp)).2]
    by_cases hz : z = p.k
    · subst hz
      exact getL_put_same hm _ _
    · rw [getL_put_other hz]
      exact h z
theorem getL_empty (y : List UInt8) : getL (.map []) y = [] := rfl
theorem has_empty (y : List UInt8) : has (.map [] : Mp) (skey y) = false := rfl

/-! ### the order -/
theorem lt_of_le_ne {a b : List UInt8} (h : a ≤ b) (hne : a ≠ b) : a < b := by
  rcases Decidable.em (a < b) with h1 | h1
  · exact h1
  · exact absurd (List.le_antisymm h (List.not_lt.1 h1)) hne
theorem keysL_lt {D : Mp} {ss : List (List UInt8)} (hp : ss.Perm (strKeys D)) (hn : ss.Nodup) : (keysL D).Pairwise (fun a b => a < b) := by
  have h1 : (keysL D).Nodup := (((keysL_perm D).trans hp.symm).nodup_iff).2 hn
  have h2 := keysL_le D
  exact (List.Pairwise.and h2 h1).imp (fun {a b} h => lt_of_le_ne h.1 h.2)
theorem keysP_lt {D : Mp} {ss : List (List UInt8)} (hp : ss.Perm (strKeys D)) (hn : ss.Nodup) (p : List UInt8) : (keysP D p).Pairwise (fun a b => a < b) := (keysL_lt hp hn).sublist List.filter_sublist
theorem keysP_len {D : Mp} {ss : List (List UInt8)} (hp : ss.Perm (strKeys D)) (p : List UInt8) : (keysP D p).length = (ss.filter (fun k => p.isPrefixOf k)).length := (((keysL_perm D).trans hp.symm).filter _).length_eq
theorem geq_str_no {x y : List UInt8} (h : x < y) : binOp .geq 9 (.string (str x)) (.string (str y)) = pure (.bool false) := by
  rw [binOp_string_geq, str_toList, str_toList, bytesLess_eq]
  simp [h]
theorem lss_nat_no (t : TypeId) {a b : Nat} (h : b ≤ a) : binOp .lss t (.int .i64 (a : Int)) (.int .i64 (b : Int)) = pure (.bool false) := by
  rw [binOp_lss]
  congr 2
  simp
  omega

end Go.Proofs.YtbkncfedahifkaaGreat

/-
  Slices of strings that came in, as rows of bytes.
-/
set_option linter.unusedVariables false
namespace Go.Proofs.YtbkncfedahifkaaGreat
open Go.RowKit

theorem strs_bytes (l : List ByteArray) : (l.map fun s => s.data.toList).map encStr = l.map fun s => Value.string s := by
  rw [List.map_map]
  apply List.map_congr_left
  intro s _
  rfl

end Go.Proofs.YtbkncfedahifkaaGreat
