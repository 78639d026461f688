/-
  Texts that stand in one: WOpen, WTry, WBegin, WBegin2, WOpen2, WOpen3, WPlain, WPlain2, WKnown.
-/
import Derived.Test.YtbkncfedahifkaaGreatPWal
import Derived.Defers
import Derived.Recover
import Derived.Lib.SmallJoins
/-
  Package wal: open.
-/
set_option linter.unusedVariables false
set_option linter.unusedSimpArgs false
namespace Go.Proofs.YtbkncfedahifkaaGreat
open Go.RowKit Go.Maps

/-- What open comes to. -/
def OpenPost (w : World) (r : Option (Nat × List (List UInt8) × Nat)) (e : Ending) (w' : World) : Prop :=
  Ch [] w w' ∧ match r with
    | some (t, rs, bh) => ∃ v, e = .returned (.tuple #[.int .u64 (t : Int), v, .int .i64 (bh : Int)]) ∧ RowsO w' w.heap.size v rs
    | none => e = .panicked stopW
theorem open_none {w w' : World} {r : Option (Nat × List (List UInt8) × Nat)} (hr : r = none) (hc : Ch [] w w') : OpenPost w r (.panicked stopW) w' := ⟨hc, by rw [hr]⟩

section
variable {lb um b g m n sz turn next at_ count : Nat} {X : List Nat} {R : Nat → List UInt8}
set_option maxRecDepth 100000 in
set_option maxHeartbeats 4000000 in
theorem open_any (side a nx : Nat) (w : World) (h : LogS w lb um b g m X n sz R turn next at_ count) (hs : side < 2) (hnx : nx < 9223372036854775808) (haB : a ≤ 1000000) :
    Calls Tryz.prog 79 #[.pointer (some ⟨lb, 0, none⟩), .int .i64 (side : Int), .int .i64 (a : Int), .int .u64 (nx : Int)] w (OpenPost w (openF R n sz side a nx)) := by
  have hb := h.bds
  by_cases ha : ¬ a < n / 2
  · have hno : openF R n sz side a nx = none := by simp [openF, ha]
    have hse := wsector_no side a w h (by omega)
    have HNO := Lib.hid hno
    clear hno
    go_enter Tryz.func79, Tryz.ntmps79
    go_wp2_with fail
    refine hse.mono ?_
    rintro e w' ⟨rfl, rfl⟩
    exact ⟨rfl, open_none HNO.out (Ch.refl _ _)⟩
  have ha : a < n / 2 := by omega
  have hfi : side * (n / 2) + a < n := by
    have : side * (n / 2) ≤ 1 * (n / 2) := Nat.mul_le_mul_right _ (by omega)
    omega
  have hse := wsector_yes side a w h hs ha
  have hxl := h.live.len _ hfi
  go_enter Tryz.func79, Tryz.ntmps79
  go_wp2_with fail
  refine hse.mono ?_
  rintro e w1 ⟨x, c, rfl, hx1, hx2, hrow, hc1⟩
  clear hse
  have hL1 := h.nil hc1
  have hz1 := wsize w1.drew (hL1.nil (Ch.refl _ _).drew)
  generalize hSe : sz - 16 = S at *
  have hS1 : S + 16 ≤ sz := by omega
  have hS2 : sz ≤ S + 16 := by omega
  have hS3 : S ≤ sz := by omega
  have hS4 : 112 ≤ S := by omega
  obtain ⟨cur, _, _, hcap1, hcap2, _⟩ := own_block hrow
  unfold maxLen at hcap2
  have hSc : S ≤ c := by omega
  have hSc2 : S + 16 ≤ c := by omega
  have hSc3 : ¬ c = S := by omega
  have hC16 : (16 : Int) ≤ (c : Int) := by omega
  have hC32 : (32 : Int) ≤ (c : Int) := by omega
  have hcn8 : ¬ c = 8 := by omega
  have hcn24 : ¬ c = 24 := by omega
  have HZ1 := Lib.hid hz1
  have HSE := Lib.hid hSe
  clear hz1 hSe
  have hXE : ∃ L : List UInt8, R (side * (n / 2) + a) = L := ⟨_, rfl⟩
  obtain ⟨L, hL⟩ := hXE
  have HLE := Lib.hid hL
  rw [hL] at hrow hxl
  clear hL
  have hrow2 := own_keep hrow (Ch.refl [] w1).drew.drew (by simp)
  have hbE : ∃ Bb : List UInt8, L.take S = Bb := ⟨_, rfl⟩
  obtain ⟨Bb, hBb⟩ := hbE
  have hBl : Bb.length = S := by rw [← hBb, List.length_take]; omega
  have hsub : ∀ o cc : Nat, o + 8 ≤ S → 8 ≤ cc → cc ≤ c → RdB w1.drew.drew (some ⟨x, o, none⟩) 8 cc ((Bb.drop o).take 8) := by
    intro o cc h1 h2 h3
    have h4 := row_sub hrow2 o 8 cc (by omega) h2 (by unfold maxLen; omega)
    rw [← hBb, List.drop_take, List.take_take, Nat.min_eq_left (by omega)]
    exact h4
  have hg1 := get_any _ _ _ _ _ (hsub 8 (c - 8) (by omega) (by omega) (by omega)) (by omega)
  have hg2 := get_any _ _ _ _ _ (hsub 24 (c - 24) (by omega) (by omega) (by omega)) (by omega)
  have HSUB := Lib.hid hsub
  clear hsub
  have HG1 := Lib.hid hg1
  have HG2 := Lib.hid hg2
  have HBb := Lib.hid hBb
  clear hg1 hg2 hBb
  go_wp2_with fail
  refine dr_begin (by kernel_rfl) ?_
  have hT : True := trivial
  refine dr_take 0 (some 25) (v := ?_) rfl rfl (by kernel_rfl) (by kernel_rfl) (by kernel_rfl) (fun _ _ _ h => h) rfl hT (fun W _ => ?_) ?_
  rotate_left
  · (go_simp; try with_reducible rfl)
  try simp only [Act.put, List.setIfInBounds_toArray, List.set_cons_zero, List.set_cons_succ]
  refine dr_take 1 (some 26) (v := ?_) rfl rfl (by kernel_rfl) (by kernel_rfl) (by kernel_rfl) (fun _ _ _ h => h) rfl hT (fun W _ => ?_) ?_
  rotate_left
  · (go_simp; try with_reducible rfl)
  try simp only [Act.put, List.setIfInBounds_toArray, List.set_cons_zero, List.set_cons_succ]
  refine dr_take 4 (some 29) (v := ?_) rfl rfl (by kernel_rfl) (by kernel_rfl) (by kernel_rfl) (fun _ _ _ h => h) rfl hT (fun W _ => ?_) ?_
  rotate_left
  · (go_simp; try with_reducible rfl)
  try simp only [Act.put, List.setIfInBounds_toArray, List.set_cons_zero, List.set_cons_succ]
  refine dr_take 5 (some 30) (v := ?_) rfl rfl (by kernel_rfl) (by kernel_rfl) (by kernel_rfl) (fun _ _ _ h => h) rfl hT (fun W _ => ?_) ?_
  rotate_left
  · (go_simp; try with_reducible rfl)
  try simp only [Act.put, List.setIfInBounds_toArray, List.set_cons_zero, List.set_cons_succ]
  refine dr_step 2 rfl (by kernel_rfl) rfl (fun K hK => ?_)
  go_simp
  refine HZ1.out.mono ?_
  rintro e v ⟨rfl, rfl⟩
  refine hK.out _ _ hT ?_
  clear hK K
  try simp only [Act.put, List.setIfInBounds_toArray, List.set_cons_zero, List.set_cons_succ]
  refine dr_take 3 (some 28) (v := ?_) rfl rfl (by kernel_rfl) (by kernel_rfl) (by kernel_rfl) (fun _ _ _ h => h) rfl hT (fun W _ => ?_) ?_
  rotate_left
  · (go_simp; try with_reducible rfl)
  try simp only [Act.put, List.setIfInBounds_toArray, List.set_cons_zero, List.set_cons_succ]
  refine dr_step 6 rfl (by kernel_rfl) rfl (fun K hK => ?_)
  go_simp
  refine HZ1.out.mono ?_
  rintro e v ⟨rfl, rfl⟩
  refine hK.out _ _ hT ?_
  clear hK K
  try simp only [Act.put, List.setIfInBounds_toArray, List.set_cons_zero, List.set_cons_succ]
  refine dr_take 7 (some 32) (v := ?_) rfl rfl (by kernel_rfl) (by kernel_rfl) (by kernel_rfl) (fun _ _ _ h => h) rfl hT (fun W _ => ?_) ?_
  rotate_left
  · (go_simp; try with_reducible rfl)
  try simp only [Act.put, List.setIfInBounds_toArray, List.set_cons_zero, List.set_cons_succ]
  refine dr_take 8 (some 12) (v := ?_) rfl rfl (by kernel_rfl) (by kernel_rfl) (by kernel_rfl) (fun _ _ _ h => h) rfl hT (fun W _ => ?_) ?_
  rotate_left
  · (go_simp; try with_reducible rfl)
  try simp only [Act.put, List.setIfInBounds_toArray, List.set_cons_zero, List.set_cons_succ]
  refine dr_take 9 (some 13) (v := ?_) rfl rfl (by kernel_rfl) (by kernel_rfl) (by kernel_rfl) (fun _ _ _ h => h) rfl hT (fun W _ => ?_) ?_
  rotate_left
  · (go_simp; try with_reducible rfl)
  try simp only [Act.put, List.setIfInBounds_toArray, List.set_cons_zero, List.set_cons_succ]
  refine dr_done (by kernel_rfl) ?_
  go_wp2_with fail
  refine dr_begin (by kernel_rfl) ?_
  refine dr_take 0 (some 33) (v := ?_) rfl rfl (by kernel_rfl) (by kernel_rfl) (by kernel_rfl) (fun _ _ _ h => h) rfl hT (fun W _ => ?_) ?_
  rotate_left
  · (go_simp; try with_reducible rfl)
  try simp only [Act.put, List.setIfInBounds_toArray, List.set_cons_zero, List.set_cons_succ]
  refine dr_take 1 (some 34) (v := ?_) rfl rfl (by kernel_rfl) (by kernel_rfl) (by kernel_rfl) (fun _ _ _ h => h) rfl hT (fun W _ => ?_) ?_
  rotate_left
  · (go_simp; try with_reducible rfl)
  try simp only [Act.put, List.setIfInBounds_toArray, List.set_cons_zero, List.set_cons_succ]
  refine dr_take 3 (some 36) (v := ?_) rfl rfl (by kernel_rfl) (by kernel_rfl) (by kernel_rfl) (fun _ _ _ h => h) rfl hT (fun W _ => ?_) ?_
  rotate_left
  · (go_simp; try with_reducible rfl)
  try simp only [Act.put, List.setIfInBounds_toArray, List.set_cons_zero, List.set_cons_succ]
  refine dr_take 4 (some 37) (v := ?_) rfl rfl (by kernel_rfl) (by kernel_rfl) (by kernel_rfl) (fun _ _ _ h => h) rfl hT (fun W _ => ?_) ?_
  rotate_left
  · (go_simp; try with_reducible rfl)
  try simp only [Act.put, List.setIfInBounds_toArray, List.set_cons_zero, List.set_cons_succ]
  refine dr_step 2 rfl (by kernel_rfl) rfl (fun K hK => ?_)
  go_simp
  refine HG1.out.mono ?_
  rintro e v ⟨rfl, rfl⟩
  refine hK.out _ _ hT ?_
  clear hK K
  try simp only [Act.put, List.setIfInBounds_toArray, List.set_cons_zero, List.set_cons_succ]
  refine dr_step 5 rfl (by kernel_rfl) rfl (fun K hK => ?_)
  go_simp
  refine HG2.out.mono ?_
  rintro e v ⟨rfl, rfl⟩
  refine hK.out _ _ hT ?_
  clear hK K
  try simp only [Act.put, List.setIfInBounds_toArray, List.set_cons_zero, List.set_cons_succ]
  refine dr_take 6 (some 14) (v := ?_) rfl rfl (by kernel_rfl) (by kernel_rfl) (by kernel_rfl) (fun _ _ _ h => h) rfl hT (fun W _ => ?_) ?_
  rotate_left
  · (go_simp; try with_reducible rfl)
  try simp only [Act.put, List.setIfInBounds_toArray, List.set_cons_zero, List.set_cons_succ]
  refine dr_take 7 (some 15) (v := ?_) rfl rfl (by kernel_rfl) (by kernel_rfl) (by kernel_rfl) (fun _ _ _ h => h) rfl hT (fun W _ => ?_) ?_
  rotate_left
  · (go_simp; try with_reducible rfl)
  try simp only [Act.put, List.setIfInBounds_toArray, List.set_cons_zero, List.set_cons_succ]
  refine dr_done (by kernel_rfl) ?_
  have hL2 : LogS w1.drew.drew lb um b g m X n sz R turn next at_ count := hL1.nil (Ch.refl _ _).drew.drew
  have hc2 : Ch [] w w1.drew.drew := hc1.drew.drew
  have hsg := HSUB.out 0 c (by omega) (by omega) (by omega)
  have hs16 := HSUB.out 16 (c - 16) (by omega) (by omega) (by omega)
  have he0 : RdB w1.drew.drew (some ⟨x, S, none⟩) 8 (c - S) ((L.drop S).take 8) := row_sub hrow2 S 8 (c - S) (by omega) (by omega) (by unfold maxLen; omega)
  have he8 : RdB w1.drew.drew (some ⟨x, S + 8, none⟩) 8 (c - S - 8) ((L.drop (S + 8)).take 8) := row_sub hrow2 (S + 8) 8 (c - S - 8) (by omega) (by omega) (by unfold maxLen; omega)
  have he8' : (L.drop (S + 8)).take 8 = (L.drop S).drop 8 := by rw [List.drop_drop, List.take_of_length_le (by rw [List.length_drop]; omega)]
  rw [he8'] at he8
  have hbr : RdB w1.drew.drew (some ⟨x, 0, none⟩) S c Bb := by
    have h4 := row_sub hrow2 0 S c (by omega) (by omega) (by unfold maxLen; omega)
    rw [List.drop_zero, HBb.out] at h4
    exact h4
  clear HSUB HG1 HG2 HZ1 hrow hrow2 he8' hL1 hc1 hx1 hT
  generalize hw2 : w1.drew.drew = w2 at *
  clear hw2
  have hconv := conv_str hsg 45 5 9 Tryz.underlying45 Tryz.underlying5 Tryz.underlying9
  rw [List.drop_zero] at hconv
  have hg3 := get_any _ _ _ _ w2 hs16 (by omega)
  have hg4 := get_any _ _ _ _ w2 he0 (by omega)
  have hg5 := get_any _ _ _ _ w2 he8 (by omega)
  have htb : deN ((Bb.drop 8).take 8) < 18446744073709551616 := by
    have h4 := deN_lt ((Bb.drop 8).take 8)
    have h5 : ((Bb.drop 8).take 8).length = 8 := by rw [List.length_take, List.length_drop]; omega
    rw [h5] at h4
    exact h4
  have hmb : deN ((Bb.drop 24).take 8) < 18446744073709551616 := by
    have h4 := deN_lt ((Bb.drop 24).take 8)
    have h5 : ((Bb.drop 24).take 8).length = 8 := by rw [List.length_take, List.length_drop]; omega
    rw [h5] at h4
    exact h4
  have hopen : openF R n sz side a nx = if a < n / 2 ∧ Bb.take 8 = signB ∧ deN ((Bb.drop 16).take 8) = nx ∧ deN ((L.drop S).take 8) = deN ((Bb.drop 8).take 8) ∧ deN ((L.drop S).drop 8) = nx + 1 ∧ deN ((Bb.drop 24).take 8) + 32 ≤ (n / 2 - a) * S then
      (recsP (deN ((Bb.drop 24).take 8) + 1) (((secsB R S (side * (n / 2) + a) (secsN S (32 + deN ((Bb.drop 24).take 8)))).drop 32).take (deN ((Bb.drop 24).take 8)))).map fun rs => (deN ((Bb.drop 8).take 8), rs, a + secsN S (32 + deN ((Bb.drop 24).take 8))) else none := by
    unfold openF
    simp only [HSE.out, HLE.out, HBb.out]
  have HOP := Lib.hid hopen
  clear hopen hsg hs16 he0 he8
  have hsN : ∀ l, l ≠ signB → binOp .eql 9 (.string (str l)) (.string ⟨#[72, 65, 86, 69, 82, 83, 65, 75]⟩) = pure (.bool false) := by
    intro l hne
    refine eql_str_no _ (fun e => hne ?_)
    have := congrArg (fun s : ByteArray => s.data.toList) e
    simpa [str, signB] using this
  have hsY : binOp .eql 9 (.string (str signB)) (.string ⟨#[72, 65, 86, 69, 82, 83, 65, 75]⟩) = pure (.bool true) := eql_str_yes _ _
  generalize hte : deN ((Bb.drop 8).take 8) = tq at *
  generalize hme : deN ((Bb.drop 24).take 8) = mq at *
  generalize hse : Bb.take 8 = sg at *
  generalize hxe : deN ((Bb.drop 16).take 8) = xq at *
  generalize hee : deN ((L.drop S).take 8) = eq0 at *
  generalize hfe : deN ((L.drop S).drop 8) = eq8 at *
  have HNN := Lib.hid hsN
  have HTE := Lib.hid hte
  have HME := Lib.hid hme
  have HG3 := Lib.hid hg3
  have HG4 := Lib.hid hg4
  have HG5 := Lib.hid hg5
  clear hte hme hse hxe hee hfe hsN hg3 hg4 hg5
  by_cases hsgn : ¬ sg = signB
  · have hno : openF R n sz side a nx = none := by rw [HOP.out, if_neg (fun h => hsgn h.2.1)]
    have hq := HNN.out sg hsgn
    have HNO := Lib.hid hno
    have HSG := Lib.hid hsgn
    clear hno hsgn hsY
    go_wp2_with fail
    refine (wmust_no _).mono ?_
    rintro e w' ⟨rfl, rfl⟩
    exact ⟨rfl, open_none HNO.out hc2⟩
  obtain rfl : sg = signB := by simpa using hsgn
  clear hsgn HNN
  by_cases hnq : ¬ xq = nx
  · have hno : openF R n sz side a nx = none := by rw [HOP.out, if_neg (fun h => hnq h.2.2.1)]
    have hq : ((xq : Int) == (nx : Int)) = false := by rw [beq_eq_false_iff_ne]; omega
    have hq2 : (xq == nx) = false := by rw [beq_eq_false_iff_ne]; exact hnq
    have HNO := Lib.hid hno
    clear hno
    go_wp2_with fail
    refine HG3.out.mono ?_
    rintro e w' ⟨rfl, rfl⟩
    go_wp2_with fail
    refine (wmust_no _).mono ?_
    rintro e w' ⟨rfl, rfl⟩
    exact ⟨rfl, open_none HNO.out hc2⟩
  obtain rfl : xq = nx := by omega
  clear hnq
  go_wp2_with fail
  refine HG3.out.mono ?_
  rintro e w' ⟨rfl, rfl⟩
  go_wp2_with fail
  refine (wmust_yes _ _).mono ?_
  rintro e w' ⟨rfl, rfl⟩
  clear hconv hsY HG3
  have hcs8 : ¬ c - S = 8 := by omega
  have h8s : (8 : Int) ≤ ((sz - S : Nat) : Int) := by omega
  have h8c : (8 : Int) ≤ ((c - S : Nat) : Int) := by omega
  have h8n : 8 ≤ sz - S := by omega
  have h8m : 8 ≤ c - S := by omega
  by_cases heq : ¬ eq0 = tq
  · have hno : openF R n sz side a xq = none := by rw [HOP.out, if_neg (fun h => heq h.2.2.2.1)]
    have hq : ((eq0 : Int) == (tq : Int)) = false := by rw [beq_eq_false_iff_ne]; omega
    have hq2 : (eq0 == tq) = false := by rw [beq_eq_false_iff_ne]; exact heq
    have HNO := Lib.hid hno
    clear hno
    go_wp2_with fail
    refine HG4.out.mono ?_
    rintro e w' ⟨rfl, rfl⟩
    go_wp2_with fail
    refine (wmust_no _).mono ?_
    rintro e w' ⟨rfl, rfl⟩
    exact ⟨rfl, open_none HNO.out hc2⟩
  obtain rfl : eq0 = tq := by omega
  clear heq
  by_cases he8q : ¬ eq8 = xq + 1
  · have hno : openF R n sz side a xq = none := by rw [HOP.out, if_neg (fun h => he8q h.2.2.2.2.1)]
    have hq : ((eq8 : Int) == (xq : Int) + 1) = false := by rw [beq_eq_false_iff_ne]; omega
    have HNO := Lib.hid hno
    clear hno
    go_wp2_with fail
    refine HG4.out.mono ?_
    rintro e w' ⟨rfl, rfl⟩
    go_wp2_with fail
    rw [show sz - S - 8 = 8 from by omega]
    refine HG5.out.mono ?_
    rintro e w' ⟨rfl, rfl⟩
    go_wp2_with fail
    refine (wmust_no _).mono ?_
    rintro e w' ⟨rfl, rfl⟩
    exact ⟨rfl, open_none HNO.out hc2⟩
  have he8e : eq8 = xq + 1 := by omega
  have he8z : ((eq8 : Int) == (xq : Int) + 1) = true := by rw [beq_iff_eq]; omega
  have HE8 := Lib.hid he8e
  clear he8q he8e
  have hm := wmost a w2 hL2 (by omega)
  rw [HSE.out] at hm
  have hZ1 : 112 ≤ (n / 2 - a) * S := by
    have : 1 * S ≤ (n / 2 - a) * S := Nat.mul_le_mul_right _ (by omega)
    omega
  have hZ2 : (n / 2 - a) * S ≤ 2048 * 4096 := Nat.mul_le_mul (by omega) (by omega)
  have hsle : ∀ y, y ≤ (n / 2 - a) * S → secsN S y ≤ n / 2 - a := fun y hy => secsN_le S y _ (by omega) hy
  have HSLE := Lib.hid hsle
  clear hsle
  generalize hZe : (n / 2 - a) * S = Z at *
  have HZE := Lib.hid hZe
  clear hZe
  go_wp2_with fail
  refine HG4.out.mono ?_
  rintro e w' ⟨rfl, rfl⟩
  go_wp2_with fail
  rw [show sz - S - 8 = 8 from by omega]
  refine HG5.out.mono ?_
  rintro e w' ⟨rfl, rfl⟩
  clear HG4 HG5
  go_wp2_with fail
  refine (wmust_yes _ _).mono ?_
  rintro e w' ⟨rfl, rfl⟩
  clear he8z
  go_wp2_with fail
  refine hm.mono ?_
  rintro e w' ⟨rfl, rfl⟩
  have hwZ : IntKind.u64.wrap ((Z : Int) - 32) = (Z : Int) - 32 := by rw [IntKind.wrap_u64]; omega
  by_cases hmq : ¬ mq + 32 ≤ Z
  · have hno : openF R n sz side a xq = none := by rw [HOP.out, if_neg (fun h => hmq h.2.2.2.2.2)]
    have hq : decide ((mq : Int) ≤ (Z : Int) - 32) = false := by simp; omega
    have HNO := Lib.hid hno
    clear hno
    go_wp2_with fail
    refine (wmust_no _).mono ?_
    rintro e w' ⟨rfl, rfl⟩
    exact ⟨rfl, open_none HNO.out hc2⟩
  have hmq2 : mq + 32 ≤ Z := by omega
  have hq : decide ((mq : Int) ≤ (Z : Int) - 32) = true := by simp; omega
  go_wp2_with fail
  refine (wmust_yes _ _).mono ?_
  rintro e w' ⟨rfl, rfl⟩
  clear hq hm
  have hsc := wsectors (32 + mq) w2 hL2 (by omega)
  rw [HSE.out, Int.natCast_add] at hsc
  have hk := HSLE.out (32 + mq) (by omega)
  have hkp : 1 ≤ secsN S (32 + mq) := by
    unfold secsN
    have hd := Nat.div_add_mod (32 + mq) S
    rcases Nat.eq_zero_or_pos ((32 + mq) / S) with hz | hz
    · rw [hz, Nat.mul_zero, Nat.zero_add] at hd
      omega
    · omega
  have hkS : 32 + mq ≤ secsN S (32 + mq) * S := by
    unfold secsN
    have hd := Nat.div_add_mod (32 + mq) S
    rw [Nat.mul_comm] at hd
    rcases Nat.eq_zero_or_pos ((32 + mq) % S) with hz | hz
    · rw [hz] at hd ⊢
      simp
      omega
    · rw [show min ((32 + mq) % S) 1 = 1 from by omega, Nat.add_mul, Nat.one_mul]
      have := Nat.mod_lt (32 + mq) (show 0 < S by omega)
      omega
  have hopS : openF R n sz side a xq = (recsP (mq + 1) (((secsB R S (side * (n / 2) + a) (secsN S (32 + mq))).drop 32).take mq)).map fun rs => (eq0, rs, a + secsN S (32 + mq)) := by
    rw [HOP.out, if_pos (by refine ⟨ha, ?_, ?_, ?_, HE8.out, hmq2⟩ <;> trivial)]
  have HOS := Lib.hid hopS
  clear HOP hopS HSLE hwZ
  generalize hke : secsN S (32 + mq) = k at *
  have HKE := Lib.hid hke
  clear hke
  have hcl := clone_bytes (some ⟨x, 0, none⟩) S c Bb
  go_wp2_with fail
  refine hsc.mono ?_
  rintro e w3 ⟨rfl, hc3⟩
  have hL3 := hL2.nil hc3
  have hcw3 := hc2.trans hc3 (by simp)
  have hcl := clone_bytes (some ⟨x, 0, none⟩) S c Bb w3 (hbr.keep hc3 (by simp)) (by omega)
  clear hsc
  go_wp2_with fail
  refine hcl.mono ?_
  rintro e w4 ⟨v4, rfl, ho4, hc4⟩
  obtain ⟨g4, c4, rfl, hg4, hgl4, hrow4⟩ := ho4.get (by omega)
  rw [hBl] at hrow4
  rw [hBl]
  have hL4 := hL3.nil hc4
  have hcw4 := hcw3.trans hc4 (by simp)
  clear hcl ho4 hbr hL2 hL3 hc3 hc4 hc2
  have hd1 : secsB R S (side * (n / 2) + a) 1 = Bb := by
    rw [secsB_succ, Nat.add_zero, HLE.out, HBb.out]
    rfl
  have hrow5 : w4.ownsRow w.heap.size 5 1 (.slice (some ⟨g4, 0, none⟩) S c4) (1 * S) (bvs (secsB R S (side * (n / 2) + a) 1)) := by
    rw [hd1, Nat.one_mul]
    exact own_rebase hrow4 (by intro y hy; have := hcw3.size; have := own_ge hrow4 y hy; omega)
  have HBL := Lib.hid hBl
  clear hrow4 hd1 hBl
  go_wp2_with fail
  go_loopw [12, 17] (fun bb iv wr => ∃ j : Nat, 1 ≤ j ∧ j ≤ k ∧ iv = .int .i64 ((a : Int) + (j : Int)) ∧ wr.ownsRow w.heap.size 5 1 bb (j * S) (bvs (secsB R S (side * (n / 2) + a) j)) ∧ Ch [] w wr) (fun _ iv _ => (a + k : Nat) - (intOf iv).toNat)
  case atStart => exact ⟨1, by omega, hkp, rfl, hrow5, hcw4⟩
  case round =>
    clear hrow5 hcw4
    obtain ⟨j, hj1, hj2, rfl, hrow, hch⟩ := hrel
    obtain ⟨wA, hwA⟩ : ∃ W, W = wr := ⟨_, rfl⟩
    subst hwA
    have hLA := h.nil hch
    have hkS2 : k * S ≤ 2048 * 4096 := Nat.mul_le_mul (by omega) (by omega)
    by_cases hlt : j < k
    · have hse := wsector_yes side (a + j) wA hLA hs (by omega)
      have hjS : (j + 1) * S ≤ k * S := Nat.mul_le_mul_right _ (by omega)
      have hjE : (j + 1) * S = j * S + S := by rw [Nat.add_mul, Nat.one_mul]
      have hdj := secsB_succ R S (side * (n / 2) + a) j
      rw [← Nat.add_assoc, Int.natCast_add] at hse
      have HDJ := Lib.hid hdj
      have HJE := Lib.hid hjE
      have hjb : j * S + S ≤ 2048 * 4096 := by omega
      clear hdj hjE hjS
      generalize hLj : R (side * (n / 2) + a + j) = Lj at *
      generalize hDj : secsB R S (side * (n / 2) + a) j = Dj at *
      generalize hjSe : j * S = p at *
      have HLJ := Lib.hid hLj
      have HDj := Lib.hid hDj
      have HPS := Lib.hid hjSe
      clear hLj hDj hjSe
      go_wp2_with fail
      refine hse.mono ?_
      rintro e w5 ⟨x5, c5, rfl, hx5, hxl5, hrow5, hc5⟩
      have hL5 := hLA.nil hc5
      have hz5 := wsize w5 hL5
      rw [HSE.out] at hz5
      obtain ⟨_, _, _, hcp1, hcp2, _⟩ := own_block hrow5
      unfold maxLen at hcp2
      have hSc5 : S ≤ c5 := by omega
      have hcw5 := hch.trans hc5 (by simp)
      have hs5 := hcw5.size
      have hrd5 := row_sub hrow5 0 S c5 (by omega) hSc5 (by unfold maxLen; omega)
      rw [List.drop_zero] at hrd5
      have hrow6 := own_keep hrow hc5 (by simp)
      clear hse hrow hrow5
      go_wp2_with fail
      refine hz5.mono ?_
      rintro e w' ⟨rfl, rfl⟩
      clear hz5
      go_wp2_with (first
        | (at_builtin; refine app_rd rfl (.tmp 89) (.tmp 96) 45 5 (.int .u8 0) 1 1 (by decide) rfl Tryz.underlying45 Tryz.info5 rfl _ _ _ (bvs (Lj.take S)) _ S c5 rfl rfl (bvs_one _) hrow6 hrd5 hs5 (by omega) (by unfold maxLen; omega) ?_; intro v6 w6 h6 hgr6 hat6; have hc6 := hcw5.grown hgr6 (fun y hy => .inr (own_ge hrow6 y hy)))
        | fail)
      have e1 : bvs (secsB R S (side * (n / 2) + a) (j + 1)) = bvs Dj ++ bvs (Lj.take S) := by rw [HDJ.out, bvs_append]
      have e2 : (j + 1) * S = p + S := HJE.out
      refine ⟨⟨j + 1, by omega, by omega, by go_num, by rw [e1, e2]; exact h6, hc6⟩, ?_⟩
      simp [intOf]
      omega
    · obtain rfl : j = k := by omega
      clear hlt hj2
      have hsd : side * (n / 2) ≤ n / 2 := by
        have : side * (n / 2) ≤ 1 * (n / 2) := Nat.mul_le_mul_right _ (by omega)
        omega
      have hdl : (secsB R S (side * (n / 2) + a) j).length = j * S := secsB_length R S _ j (fun i hi => by rw [h.live.len _ (by omega)]; omega)
      obtain ⟨Ab, cb, rfl⟩ := own_slice hrow
      have hrdb : RdB wA Ab (j * S) cb (secsB R S (side * (n / 2) + a) j) := own_rd hrow
      have hAbl : ∀ ad, Ab = some ad → ad.block < wA.heap.size := fun ad had => own_lt hrow ad.block (by rw [had]; rfl)
      obtain ⟨i0, hi0, hsz0⟩ := Option.map_eq_some_iff.1 Tryz.info5
      simp only [Prod.mk.injEq] at hsz0
      obtain ⟨Ar, hcut0, hrdr, hblr⟩ := cut_mid (P := Tryz.prog) 45 5 Tryz.underlying45 hi0 hsz0.2.1 Ab (j * S) cb 32 (32 + mq) (by omega) hkS hrdb.cap
      have hcutr : ∀ W, (Instr.slice 45 (.slice Ab (j * S) cb) (some (.int .i64 32)) (some (.int .i64 (32 + (mq : Int)))) none).run Tryz.prog W = .ok (.slice Ar (32 + mq - 32) (cb - 32)) W := by
        intro W
        have := hcut0 .i64 .i64 W
        rw [Int.natCast_add] at this
        exact this
      have hrd0 := hrdr wA _ hrdb
      rw [show 32 + mq - 32 = mq from by omega] at hrd0 hcutr
      have hAr : ∀ ad, Ar = some ad → ad.block < wA.heap.size := fun ad had => by
        obtain ⟨a1, h1, h2⟩ := hblr ad had
        rw [h2]
        exact hAbl a1 h1
      have hcm : IntKind.i64.wrap (mq : Int) = (mq : Int) := by rw [IntKind.wrap_i64]; omega
      have hfl := hrd0.length
      have hwA := hch.size
      have hdone : RowsO wA wA.heap.size (.slice none 0 0) [] := RowsO.empty _ _
      clear hrow hrdb hAbl hcut0 hrdr hblr hdl
      have HRD0 := Lib.hid hrd0
      have HFL := Lib.hid hfl
      clear hrd0 hfl
      generalize hfe : ((secsB R S (side * (n / 2) + a) j).drop 32).take mq = full at *
      have HFE := Lib.hid hfe
      clear hfe
      have hcrb := HRD0.out.cap
      go_wp2_with fail
      go_loopw [18, 19] (fun ov rv wr => ∃ (done : List (List UInt8)) (l : List UInt8) (A2 : Option Addr) (cc f : Nat), rv = .slice A2 l.length cc ∧ RdB wA A2 l.length cc l ∧ (∀ ad, A2 = some ad → ad.block < wA.heap.size) ∧ RowsO wr wA.heap.size ov done ∧ Ch [] wA wr ∧
          recsP (mq + 1) full = (recsP f l).map (done ++ ·) ∧ l.length < f ∧ done.length + l.length ≤ mq) (fun _ rv _ => match rv with | .slice _ q _ => q | _ => 0)
      case atStart => exact ⟨[], full, Ar, cb - 32, mq + 1, by rw [HFL.out], by rw [HFL.out]; exact HRD0.out, hAr, hdone, Ch.refl _ _, by simp, by rw [HFL.out]; omega, by rw [HFL.out]; simp⟩
      case round =>
        clear hdone hcutr hcm hAr HRD0 hcrb
        obtain ⟨done, l, A2, cc, f, rfl, hrl, hA2, hout, hch2, hrec, hlf, hdl⟩ := hrel
        obtain ⟨wB, hwB⟩ : ∃ W, W = wr := ⟨_, rfl⟩
        subst hwB
        obtain ⟨f, rfl⟩ : ∃ q, f = q + 1 := ⟨f - 1, by omega⟩
        have hcw := hch.trans hch2 (by simp)
        have hcap := hrl.cap
        have hcapm := hrl.max
        unfold maxLen at hcapm
        by_cases hl0 : l = []
        · subst hl0
          have hrec2 : recsP (mq + 1) full = some done := by rw [hrec]; simp [recsP]
          have HR2 := Lib.hid hrec2
          clear hrec hrec2
          go_wp2_with fail
          go_ret3
          refine ⟨hcw, ?_⟩
          rw [HOS.out, HR2.out]
          exact ⟨_, rfl, hout.rebase hwA⟩
        · have hlp : 0 < l.length := List.length_pos_iff.2 hl0
          have hgt : decide ((l.length : Int) > 0) = true := by simp; omega
          have hgt2 : decide (0 < l.length) = true := by simp; omega
          have hrn : ∀ {r : Option (List (List UInt8))}, recsP (f + 1) l = r → r = none → openF R n sz side a xq = none := by
            intro r h1 h2
            rw [HOS.out, hrec, h1, h2]
            rfl
          by_cases hl4 : l.length < 4
          · have hno := hrn rfl (by simp [recsP, hl0, hl4])
            have hge : decide ((l.length : Int) ≥ 4) = false := by simp; omega
            have HNO := Lib.hid hno
            clear hno hrn hrec
            go_wp2_with fail
            refine (wmust_no _).mono ?_
            rintro e w' ⟨rfl, rfl⟩
            exact ⟨rfl, open_none HNO.out hcw⟩
          · have hge : decide ((l.length : Int) ≥ 4) = true := by simp; omega
            obtain ⟨A4, hcut4, hrd4⟩ := cut_to (P := Tryz.prog) 45 5 Tryz.underlying45 hi0 hsz0.2.1 A2 l.length cc 4 (by omega) hcap
            rw [show ((4 : Nat) : Int) = 4 from rfl] at hcut4
            have hr4 := hrd4 wB _ (hrl.keep hch2 (by simp))
            rw [bvs_take] at hr4
            have hg4 := get_any A4 4 cc (l.take 4) wB hr4 (by omega)
            have hqb : deN (l.take 4) < 4294967296 := by
              have h4 := deN_lt (l.take 4)
              have h5 : (l.take 4).length = 4 := by rw [List.length_take]; omega
              rw [h5] at h4
              exact h4
            have hrecS : recsP (f + 1) l = if deN (l.take 4) ≤ l.length - 4 then (recsP f (l.drop (4 + deN (l.take 4)))).map (((l.drop 4).take (deN (l.take 4))) :: ·) else none := by
              simp only [recsP, hl0, hl4, if_false]
            generalize hqe : deN (l.take 4) = q at *
            have hwl : IntKind.u64.wrap ((l.length : Int) - 4) = (l.length : Int) - 4 := by rw [IntKind.wrap_u64]; omega
            by_cases hq : ¬ q ≤ l.length - 4
            · have hno := hrn rfl (by rw [hrecS, if_neg hq])
              have hle : decide ((q : Int) ≤ (l.length : Int) - 4) = false := by simp; omega
              have HNO := Lib.hid hno
              clear hno hrn hrec hrecS hqe hrd4
              go_wp2_with fail
              refine (wmust_yes _ _).mono ?_
              rintro e w' ⟨rfl, rfl⟩
              go_wp2_with fail
              refine hg4.mono ?_
              rintro e w' ⟨rfl, rfl⟩
              go_wp2_with fail
              refine (wmust_no _).mono ?_
              rintro e w' ⟨rfl, rfl⟩
              exact ⟨rfl, open_none HNO.out hcw⟩
            · have hq2 : q + 4 ≤ l.length := by omega
              have hle : decide ((q : Int) ≤ (l.length : Int) - 4) = true := by simp; omega
              have hrec2 : recsP (mq + 1) full = (recsP f (l.drop (4 + q))).map ((done ++ [(l.drop 4).take q]) ++ ·) := by
                rw [hrec, hrecS, if_pos (by omega), Option.map_map]
                congr 1
                funext z
                simp
              obtain ⟨Am, hcutm, hrdm, hblm⟩ := cut_mid (P := Tryz.prog) 45 5 Tryz.underlying45 hi0 hsz0.2.1 A2 l.length cc 4 (4 + q) (by omega) (by omega) hcap
              have hcutm' : ∀ W, (Instr.slice 45 (.slice A2 l.length cc) (some (.int .i64 4)) (some (.int .u64 (4 + (q : Int)))) none).run Tryz.prog W = .ok (.slice Am (4 + q - 4) (cc - 4)) W := by
                intro W
                have := hcutm .i64 .u64 W
                rw [Int.natCast_add] at this
                exact this
              obtain ⟨Af, hcutf, hrdf, hblf⟩ := cut_from (P := Tryz.prog) 45 5 Tryz.underlying45 hi0 hsz0.2.1 A2 l.length cc (4 + q) (by omega)
              have hcutf' : ∀ W, (Instr.slice 45 (.slice A2 l.length cc) (some (.int .u64 (4 + (q : Int)))) none none).run Tryz.prog W = .ok (.slice Af (l.length - (4 + q)) (cc - (4 + q))) W := by
                intro W
                have := hcutf .u64 W
                rw [Int.natCast_add] at this
                exact this
              have hrm := hrdm wB _ (hrl.keep hch2 (by simp))
              have hrf := hrdf wA _ hrl
              rw [Nat.mul_one, bvs_drop] at hrf
              have hAf : ∀ ad, Af = some ad → ad.block < wA.heap.size := fun ad had => by
                obtain ⟨a1, h1, h2⟩ := hblf ad had
                rw [h2]
                exact hA2 a1 h1
              rw [show 4 + q - 4 = q from by omega] at hrm hcutm'
              have hcl := clone_bytes Am q (cc - 4) ((l.drop 4).take q) wB hrm (by omega)
              have hdlen : (l.drop (4 + q)).length = l.length - (4 + q) := List.length_drop
              have HREC := Lib.hid hrec2
              have HDL := Lib.hid hdlen
              have HRF := Lib.hid hrf
              clear hrn hrec hrecS hqe hrd4 hrec2 hcutm hcutf hrdm hrdf hblm hblf hrf hdlen hr4
              go_wp2_with fail
              refine (wmust_yes _ _).mono ?_
              rintro e w' ⟨rfl, rfl⟩
              go_wp2_with fail
              refine hg4.mono ?_
              rintro e w' ⟨rfl, rfl⟩
              go_wp2_with fail
              refine (wmust_yes _ _).mono ?_
              rintro e w' ⟨rfl, rfl⟩
              go_wp2_with fail
              refine hcl.mono ?_
              rintro e w7 ⟨v7, rfl, ho7, hc7⟩
              have hch7 := hch2.trans hc7 (by simp)
              have hs7 := hch7.size
              obtain ⟨vs0, hv0, _⟩ := id hout
              obtain ⟨Ao, co, rfl⟩ := own_slice hv0
              have hrow7 := ho7.row (fun y hy => own_lt hv0 y hy) wA.heap.size hch2.size
              obtain ⟨vs, hvs1, hvs2⟩ := hout.nil hc7
              have hvl : vs.length = done.length := by have := hvs1.1; simpa using this
              have hrows : ∀ (i : Nat) (h : i < [(l.drop 4).take q].length), ∃ u, [v7][i]? = some u ∧ RowO w7 wA.heap.size (.slice Ao done.length co) u [(l.drop 4).take q][i] := by
                intro i hi
                obtain rfl : i = 0 := by simp at hi; omega
                exact ⟨v7, rfl, hrow7⟩
              obtain ⟨A7, n7, c7, e7, _⟩ := id hrow7
              subst e7
              have HROWS := Lib.hid hrows
              have HVS2 := Lib.hid hvs2
              have HVL := Lib.hid hvl
              clear hcl ho7 hrow7 hrows hvs2 hvl hv0 hout
              go_wp2_with (first
                | (at_builtin; refine app_one rfl (.tmp 120) (.tmp 126) 77 45 (.slice none 0 0) 24 rfl Tryz.underlying77 Tryz.info45 rfl _ _ vs _ rfl rfl rfl hvs1 hs7 (by omega) (by unfold maxLen; omega) ?_; intro v8 w8 h8 hgr8 hat8; have hc8 := hch7.grown hgr8 (fun y hy => .inr (own_ge hvs1 y hy)))
                | fail)
              have hfin := RowsO.app HVS2.out HVL.out HROWS.out h8 hgr8 hat8 hs7
              refine ⟨⟨done ++ [(l.drop 4).take q], l.drop (4 + q), Af, cc - (4 + q), f, by rw [HDL.out], by rw [HDL.out]; exact HRF.out, hAf, hfin, hc8, HREC.out, by rw [HDL.out]; omega, by rw [HDL.out, List.length_append]; simp; omega⟩, ?_⟩
              simp
              omega
end

end Go.Proofs.YtbkncfedahifkaaGreat

/-
  Package wal: try.
-/
set_option linter.unusedVariables false
set_option linter.unusedSimpArgs false
namespace Go.Proofs.YtbkncfedahifkaaGreat
open Go.RowKit Go.Maps

set_option maxRecDepth 100000 in
theorem wcatch_idle (p q : Addr) (w : World) :
    CallsD Tryz.prog 109 #[.pointer (some p), .pointer (some q)] .returning w fun e u' w' => e = .returned (.tuple #[]) ∧ u' = .returning ∧ w' = w := by
  refine callsD_of_wpS Tryz.func109 rfl fun c₀ cs hu => ?_
  simp only [Tryz.ntmps109, List.size_toArray, List.length_cons, List.length_nil, Nat.reduceAdd, Nat.reduceSub, Array.replicate_succ, Array.replicate_zero, List.push_toArray, List.append_toArray, List.nil_append, List.cons_append]
  apply wpS_seq
  apply wpS_region
  simp [wpOpsS, go_sem, recoverD, hu, Exit.thenS]
  have hu' : c₀ = { c₀ with mode := .returning } := by cases c₀; simp_all
  refine wpS_of_wp ?_
  go_wp2
  refine ⟨rfl, .returning, by rw [← hu'], ?_⟩
  simp [results, Tryz.results109]

set_option maxRecDepth 100000 in
/-- The panic of must is caught: the answer is no. -/
theorem wcatch_stop (p q : Nat) (x y : Value) (older : List PanicEntry) (w : World) (hp : w.heap[p]? = some (.cells #[x] 4 (0, 0))) (hq : w.heap[q]? = some (.cells #[y] 25 (0, 0))) (hpq : p ≠ q) :
    CallsD Tryz.prog 109 #[.pointer (some ⟨p, 0, none⟩), .pointer (some ⟨q, 0, none⟩)] (.panicking ({ v := .iface 186 (.agg #[.int .i64 0]), recovered := false } :: older)) w fun e u' w' =>
      e = .returned (.tuple #[]) ∧ u' = .panicking ({ v := .iface 186 (.agg #[.int .i64 0]), recovered := true } :: older) ∧ Ch [p, q] w w' ∧ w'.heap[p]? = some (.cells #[.bool false] 4 (0, 0)) ∧ w'.heap[q]? = some (.cells #[.int .i64 0] 25 (0, 0)) := by
  have hpl := lt_of_at hp
  have hql := lt_of_at hq
  refine callsD_of_wpS Tryz.func109 rfl fun c₀ cs hu => ?_
  simp only [Tryz.ntmps109, List.size_toArray, List.length_cons, List.length_nil, Nat.reduceAdd, Nat.reduceSub, Array.replicate_succ, Array.replicate_zero, List.push_toArray, List.append_toArray, List.nil_append, List.cons_append]
  apply wpS_seq
  apply wpS_region
  simp [wpOpsS, go_sem, recoverD, hu, Exit.thenS]
  refine wpS_of_wp ?_
  have hta : ∀ W : World, (Instr.typeAssert (.iface 186 (.agg #[.int .i64 0])) 20 186 true).run Tryz.prog W = .ok (.tuple #[.agg #[.int .i64 0], .bool true]) W := fun _ => by kernel_rfl
  have hpc := cell_at hp 0 rfl
  have hpf := free_at hp 0
  have hqc := cell_at hq 0 rfl
  have hqf := free_at hq 0
  have hA := (Ch.refl [] w).alloc (.cells #[.int .i64 0] 186)
  have hAd := hA
  have hp1 := hAd.at_ hp (by simp)
  have hq1 := hAd.at_ hq (by simp)
  have hp1c := cell_at hp1 0 rfl
  have hp1f := free_at hp1 0
  have hs2 : Ch [p] (w.alloc (.cells #[.int .i64 0] 186)) ((w.alloc (.cells #[.int .i64 0] 186)).setCell ⟨p, 0, none⟩ (.bool false)) := (Ch.refl _ _).setCell _ _ (by simp)
  have hq2 := hs2.at_ hq1 (by simp; omega)
  have hq2c := cell_at hq2 0 rfl
  have hq2f := free_at hq2 0
  have hp2 : ((w.alloc (.cells #[.int .i64 0] 186)).setCell ⟨p, 0, none⟩ (.bool false)).heap[p]? = some (.cells #[.bool false] 4 (0, 0)) := by
    have := heap_setCell_same _ p 0 _ 4 (.bool false) hp1
    simpa using this
  have hs3 : Ch [q] ((w.alloc (.cells #[.int .i64 0] 186)).setCell ⟨p, 0, none⟩ (.bool false)) (((w.alloc (.cells #[.int .i64 0] 186)).setCell ⟨p, 0, none⟩ (.bool false)).setCell ⟨q, 0, none⟩ (.int .i64 0)) := (Ch.refl _ _).setCell _ _ (by simp)
  have hp3 := hs3.at_ hp2 (by simp; omega)
  have hq3 : (((w.alloc (.cells #[.int .i64 0] 186)).setCell ⟨p, 0, none⟩ (.bool false)).setCell ⟨q, 0, none⟩ (.int .i64 0)).heap[q]? = some (.cells #[.int .i64 0] 25 (0, 0)) := by
    have := heap_setCell_same _ q 0 _ 25 (.int .i64 0) hq2
    simpa using this
  have hfin : Ch [p, q] w (((w.alloc (.cells #[.int .i64 0] 186)).setCell ⟨p, 0, none⟩ (.bool false)).setCell ⟨q, 0, none⟩ (.int .i64 0)).drew := (((hAd.mono (G := [p, q]) (by simp)).trans hs2 (by simp)).trans hs3 (by simp)).drew
  have hp4 : (((w.alloc (.cells #[.int .i64 0] 186)).setCell ⟨p, 0, none⟩ (.bool false)).setCell ⟨q, 0, none⟩ (.int .i64 0)).drew.heap[p]? = some (.cells #[.bool false] 4 (0, 0)) := hp3
  have hq4 : (((w.alloc (.cells #[.int .i64 0] 186)).setCell ⟨p, 0, none⟩ (.bool false)).setCell ⟨q, 0, none⟩ (.int .i64 0)).drew.heap[q]? = some (.cells #[.int .i64 0] 25 (0, 0)) := hq3
  have HF := Lib.hid (show _ ∧ _ ∧ _ from ⟨hfin, hp4, hq4⟩)
  clear hfin hp3 hq3 hp4 hq4
  have hT0 : (w.alloc (.cells #[.int .i64 0] 186)).cell? ⟨w.heap.size, 0, none⟩ = some (.int .i64 0) := cell_at (heap_alloc_new w _) 0 rfl
  go_wp2_with fail
  generalize hwB : w.alloc (.cells #[.int .i64 0] 186) = wB at *
  clear hwB
  refine dr_begin (by kernel_rfl) ?_
  refine dr_more (fun W => W.cell? ⟨w.heap.size, 0, none⟩ = some (.int .i64 0)) ?_
  have hT : True ∧ wB.drew.cell? ⟨w.heap.size, 0, none⟩ = some (.int .i64 0) := ⟨trivial, hT0⟩
  refine dr_take 0 (some 16) (v := ?_) rfl rfl (by kernel_rfl) (by kernel_rfl) (by kernel_rfl) (fun _ _ _ h => h) rfl hT (fun W _ => ?_) ?_
  rotate_left
  · (go_simp; try with_reducible rfl)
  try simp only [Act.put, List.setIfInBounds_toArray, List.set_cons_zero, List.set_cons_succ]
  refine dr_take 1 (some 17) (v := ?_) rfl rfl (by kernel_rfl) (by kernel_rfl) (by kernel_rfl) (fun _ _ _ h => h) rfl hT (fun W hW => ?_) ?_
  rotate_left
  · (have h1 := hW.2; go_simp; try with_reducible rfl)
  try simp only [Act.put, List.setIfInBounds_toArray, List.set_cons_zero, List.set_cons_succ]
  refine dr_step 2 rfl (by kernel_rfl) rfl (fun K hK => ?_)
  go_simp
  have hT : True ∧ (wB.setCell ⟨p, 0, none⟩ (.bool false)).drew.cell? ⟨w.heap.size, 0, none⟩ = some (.int .i64 0) := ⟨trivial, hs2.cell hT.2 (by simp; omega)⟩
  refine hK.out _ _ hT ?_
  clear hK K
  try simp only [Act.put, List.setIfInBounds_toArray, List.set_cons_zero, List.set_cons_succ]
  refine dr_step 3 rfl (by kernel_rfl) rfl (fun K hK => ?_)
  go_simp
  have hT : True ∧ ((wB.setCell ⟨p, 0, none⟩ (.bool false)).setCell ⟨q, 0, none⟩ (.int .i64 0)).drew.cell? ⟨w.heap.size, 0, none⟩ = some (.int .i64 0) := ⟨trivial, hs3.cell hT.2 (by simp; omega)⟩
  refine hK.out _ _ hT ?_
  clear hK K
  try simp only [Act.put, List.setIfInBounds_toArray, List.set_cons_zero, List.set_cons_succ]
  refine dr_done (by kernel_rfl) ?_
  refine ⟨rfl, _, rfl, ?_⟩
  refine ⟨.tuple #[], by simp [results, Tryz.results109], rfl, rfl, HF.out⟩

/-- What try comes to. -/
theorem wtry_any (k : Nat) (cap : Array Value) (G : List Nat) (A B : World → Prop) (w : World) (hcf : ∀ W, (callFunc k cap).run Tryz.prog W = .ok (.enter k cap) W) (hG : ∀ x ∈ G, x < w.heap.size)
    (hA : ∀ w1 w2, A w1 → Ch [w.heap.size, w.heap.size + 1] w1 w2 → A w2) (hB : ∀ w1 w2, B w1 → Ch [w.heap.size, w.heap.size + 1] w1 w2 → B w2)
    (hC : ∀ W, Ch [] w W → w.heap.size + 2 ≤ W.heap.size → Calls Tryz.prog k cap W fun e w' => Ch G W w' ∧ ((e = .returned (.tuple #[]) ∧ A w') ∨ (e = .panicked stopW ∧ B w'))) :
    Calls Tryz.prog 77 #[.func (.func k) #[] cap] w fun e w' => Ch G w w' ∧ ((e = .returned (.tuple #[.bool true, .int .i64 0]) ∧ A w') ∨ (e = .returned (.tuple #[.bool false, .int .i64 0]) ∧ B w')) := by
  have hmf : ∀ (fn : Fn) (first cap : Array Value) (w : World), (Instr.makeFunc fn first cap).run Tryz.prog w = .ok (.func fn first cap) w := fun _ _ _ _ => rfl
  go_enter_defers Tryz.func77, Tryz.ntmps77
  go_wp2_with fail
  generalize hW : (w.alloc (.cells #[.bool false] 4)).alloc (.cells #[.int .i64 0] 25) = W
  have hch : Ch [] w W := by rw [← hW]; exact ((Ch.refl _ _).alloc _).alloc _
  have hp : W.heap[w.heap.size]? = some (.cells #[.bool false] 4 (0, 0)) := by rw [← hW]; exact heap_alloc2_old w _ _
  have hq : W.heap[w.heap.size + 1]? = some (.cells #[.int .i64 0] 25 (0, 0)) := by rw [← hW]; exact heap_alloc2_new w _ _
  clear hW
  refine (hC W hch (lt_of_at hq)).mono ?_
  rintro e w1 ⟨hc1, he⟩
  have hp1 := hc1.at_ hp (by intro hx; have := hG _ hx; omega)
  have hq1 := hc1.at_ hq (by intro hx; have := hG _ hx; omega)
  have hs1 := hc1.size
  have hsW := lt_of_at hq
  rcases he with ⟨rfl, hAw⟩ | ⟨rfl, hBw⟩
  · have hpc := cell_at hp1 0 rfl
    have hpf := free_at hp1 0
    have hset : Ch [w.heap.size] w1 (w1.setCell ⟨w.heap.size, 0, none⟩ (.bool true)) := (Ch.refl _ _).setCell _ _ (by simp)
    have hp2 : (w1.setCell ⟨w.heap.size, 0, none⟩ (.bool true)).heap[w.heap.size]? = some (.cells #[.bool true] 4 (0, 0)) := by
      have := heap_setCell_same w1 w.heap.size 0 _ 4 (.bool true) hp1
      simpa using this
    have hq2 := hset.at_ hq1 (by simp)
    have hqc := cell_at hq2 0 rfl
    have hqf := free_at hq2 0
    have hset2 : Ch [w.heap.size + 1] (w1.setCell ⟨w.heap.size, 0, none⟩ (.bool true)) ((w1.setCell ⟨w.heap.size, 0, none⟩ (.bool true)).setCell ⟨w.heap.size + 1, 0, none⟩ (.int .i64 0)) := (Ch.refl _ _).setCell _ _ (by simp)
    have hp3 := hset2.at_ hp2 (by simp)
    have hq3 : ((w1.setCell ⟨w.heap.size, 0, none⟩ (.bool true)).setCell ⟨w.heap.size + 1, 0, none⟩ (.int .i64 0)).heap[w.heap.size + 1]? = some (.cells #[.int .i64 0] 25 (0, 0)) := by
      have := heap_setCell_same _ (w.heap.size + 1) 0 _ 25 (.int .i64 0) hq2
      simpa using this
    have c3 := cell_at hp3 0 rfl
    have c4 := cell_at hq3 0 rfl
    have hAA := hA _ _ hAw (((hset.mono (G := [w.heap.size, w.heap.size + 1]) (by simp)).trans hset2 (by simp)))
    have hcc : Ch G w ((w1.setCell ⟨w.heap.size, 0, none⟩ (.bool true)).setCell ⟨w.heap.size + 1, 0, none⟩ (.int .i64 0)) := (((hch.mono (G := G) (by simp)).trans hc1 (fun x hx => .inl hx)).setCell _ _ (by simp)).setCell _ _ (by simp)
    have HH := Lib.hid (show _ ∧ _ from ⟨hcc, hAA⟩)
    clear hcc hAA
    go_wp2_with fail
    refine leaves_cons (f := 109) (args := #[.pointer (some ⟨w.heap.size, 0, none⟩), .pointer (some ⟨w.heap.size + 1, 0, none⟩)]) (by simp) (by simp [go_sem]) ?_
    refine (wcatch_idle _ _ _).mono ?_
    rintro e u w2 ⟨rfl, rfl, rfl⟩
    simp only [Leaves, settle]
    exact ⟨.tuple #[.bool true, .int .i64 0], by simp [results, Tryz.results77, go_sem, c3, c4], HH.out.1, .inl ⟨rfl, HH.out.2⟩⟩
  · refine leaves_cons (f := 109) (args := #[.pointer (some ⟨w.heap.size, 0, none⟩), .pointer (some ⟨w.heap.size + 1, 0, none⟩)]) (by simp) (by simp [go_sem]) ?_
    refine (wcatch_stop _ _ _ _ [] w1 hp1 hq1 (by omega)).mono ?_
    rintro e u w2 ⟨rfl, rfl, hc2, hp2, hq2⟩
    have c3 := cell_at hp2 0 rfl
    have c4 := cell_at hq2 0 rfl
    simp only [Leaves, settle, List.dropWhile_nil]
    refine ⟨.tuple #[.bool false, .int .i64 0], by simp [results, Tryz.results77, go_sem, c3, c4], ?_, .inr ⟨rfl, hB _ _ hBw hc2⟩⟩
    exact ((hch.mono (G := G) (by simp)).trans hc1 (fun x hx => .inl hx)).trans hc2 (by simp)

end Go.Proofs.YtbkncfedahifkaaGreat

/-
  Package wal: begin.
-/
set_option linter.unusedVariables false
set_option linter.unusedSimpArgs false
namespace Go.Proofs.YtbkncfedahifkaaGreat
open Go.RowKit Go.Maps

/-- The turn that a side's first frame tells. -/
def okSide (R : Nat → List UInt8) (n sz side : Nat) : Option Nat := match openF R n sz side 0 0 with
  | some (t, _, _) => if t % 2 = side then some t else none
  | none => none
/-- Is b a later turn than a? -/
def newer (a b : Nat) : Bool := decide (IntKind.i64.wrap (IntKind.u64.wrap ((b : Int) - (a : Int))) > 0)
def stepB (st s : Option Nat) : Option Nat := match s with
  | none => st
  | some b => match st with
    | none => some b
    | some a => if newer a b then some b else some a
def stB (R : Nat → List UInt8) (n sz : Nat) : Nat → Option Nat
  | 0 => none
  | k + 1 => stepB (stB R n sz k) (okSide R n sz k)
theorem openF_lt {R : Nat → List UInt8} {n sz side a nx t bh : Nat} {rs : List (List UInt8)} (h : openF R n sz side a nx = some (t, rs, bh)) : t < 18446744073709551616 := by
  unfold openF at h
  simp only at h
  split at h
  · obtain ⟨q, _, e⟩ := Option.map_eq_some_iff.1 h
    simp only [Prod.mk.injEq] at e
    rw [← e.1]
    have h4 := deN_lt ((((R (side * (n / 2) + a)).take (sz - 16)).drop 8).take 8)
    have h5 : ((((R (side * (n / 2) + a)).take (sz - 16)).drop 8).take 8).length ≤ 8 := by rw [List.length_take]; omega
    have h6 : 256 ^ ((((R (side * (n / 2) + a)).take (sz - 16)).drop 8).take 8).length ≤ 256 ^ 8 := Nat.pow_le_pow_right (by omega) h5
    exact Nat.lt_of_lt_of_le h4 h6
  · cases h
theorem okSide_lt {R : Nat → List UInt8} {n sz side t : Nat} (h : okSide R n sz side = some t) : t < 18446744073709551616 := by
  unfold okSide at h
  cases ho : openF R n sz side 0 0 with
  | none => rw [ho] at h; cases h
  | some q =>
    obtain ⟨t', rs, bh⟩ := q
    rw [ho] at h
    simp only at h
    split at h
    · injection h with h
      subst h
      exact openF_lt ho
    · cases h

section
variable {lb um b g m n sz turn next at_ count : Nat} {X : List Nat} {R : Nat → List UInt8}
set_option maxRecDepth 100000 in
theorem beginC_any (lp sp tp side : Nat) (z : Value) (w : World) (h : LogS w lb um b g m X n sz R turn next at_ count) (hs : side < 2) (hlp : w.heap[lp]? = some (.cells #[.pointer (some ⟨lb, 0, none⟩)] 97 (0, 0)))
    (hsp : w.heap[sp]? = some (.cells #[.int .i64 (side : Int)] 3 (0, 0))) (htp : w.heap[tp]? = some (.cells #[z] 127 (0, 0))) :
    Calls Tryz.prog 108 #[.pointer (some ⟨lp, 0, none⟩), .pointer (some ⟨sp, 0, none⟩), .pointer (some ⟨tp, 0, none⟩)] w fun e w' => Ch [tp] w w' ∧
      ((e = .returned (.tuple #[]) ∧ ∃ t, okSide R n sz side = some t ∧ w'.heap[tp]? = some (.cells #[.int .u64 (t : Int)] 127 (0, 0))) ∨ (e = .panicked stopW ∧ okSide R n sz side = none)) := by
  have hop := open_any side 0 0 w h hs (by omega) (by omega)
  rw [show ((0 : Nat) : Int) = 0 from rfl] at hop
  have clp := cell_at hlp 0 rfl
  have csp := cell_at hsp 0 rfl
  have hst : sp ≠ tp := by
    rintro rfl
    rw [hsp] at htp
    simp only [Option.some.injEq, Obj.cells.injEq] at htp
    exact absurd htp.2.1 (by decide)
  have hlt : lp ≠ tp := by
    rintro rfl
    rw [hlp] at htp
    simp only [Option.some.injEq, Obj.cells.injEq] at htp
    exact absurd htp.2.1 (by decide)
  have HOP := Lib.hid hop
  clear hop
  go_enter Tryz.func108, Tryz.ntmps108
  go_wp2_with fail
  refine HOP.out.mono ?_
  rintro e w1 ⟨hc1, he⟩
  cases ho : openF R n sz side 0 0 with
  | none =>
    rw [ho] at he
    subst he
    have hk : okSide R n sz side = none := by unfold okSide; rw [ho]
    have HK2 := Lib.hid hk
    clear hk ho HOP
    exact ⟨rfl, hc1.mono (by simp), .inr ⟨rfl, HK2.out⟩⟩
  | some q =>
    obtain ⟨t, rs, bh⟩ := q
    rw [ho] at he
    obtain ⟨v, rfl, hrows⟩ := he
    have htb := openF_lt ho
    have htp1 := hc1.at_ htp (by simp)
    have ftp := free_at htp1 0
    have ctp := cell_at htp1 0 rfl
    have htp2 := heap_setCell_same w1 tp 0 _ 127 (.int .u64 (t : Int)) htp1
    have htp2' : (w1.setCell ⟨tp, 0, none⟩ (.int .u64 (t : Int))).heap[tp]? = some (.cells #[.int .u64 (t : Int)] 127 (0, 0)) := by simpa using htp2
    have ctp2 := cell_at htp2' 0 rfl
    have hcs : Ch [tp] w1 (w1.setCell ⟨tp, 0, none⟩ (.int .u64 (t : Int))) := (Ch.refl _ _).setCell _ _ (by simp)
    have csp2 := hcs.cell (hc1.cell csp (by simp)) (by simpa using hst)
    have hcu : IntKind.u64.wrap (side : Int) = (side : Int) := by rw [IntKind.wrap_u64]; omega
    have hcc : Ch [tp] w (w1.setCell ⟨tp, 0, none⟩ (.int .u64 (t : Int))) := (hc1.mono (by simp)).trans hcs (fun y hy => .inl hy)
    by_cases hts : t % 2 = side
    · have hk : okSide R n sz side = some t := by unfold okSide; rw [ho]; simp only [if_pos hts]
      have heq : ((t : Int) % 2 == (side : Int)) = true := by rw [beq_iff_eq]; omega
      have HH := Lib.hid (show _ ∧ _ ∧ _ from ⟨hcc, hk, htp2'⟩)
      clear hk hcc htp2 htp2' ho HOP hts
      go_wp2_with fail
      refine (wmust_yes _ _).mono ?_
      rintro e w' ⟨rfl, rfl⟩
      go_wp2_with fail
      go_end0
      exact ⟨HH.out.1, .inl ⟨rfl, t, HH.out.2.1, HH.out.2.2⟩⟩
    · have hk : okSide R n sz side = none := by unfold okSide; rw [ho]; simp only [if_neg hts]
      have heq : ((t : Int) % 2 == (side : Int)) = false := by rw [beq_eq_false_iff_ne]; omega
      have HH := Lib.hid (show _ ∧ _ from ⟨hcc, hk⟩)
      clear hk hcc htp2 htp2' ho HOP hts
      go_wp2_with fail
      refine (wmust_no _).mono ?_
      rintro e w' ⟨rfl, rfl⟩
      exact ⟨rfl, HH.out.1, .inr ⟨rfl, HH.out.2⟩⟩
end

end Go.Proofs.YtbkncfedahifkaaGreat

/-
  Package wal: begin, whole.
-/
set_option linter.unusedVariables false
set_option linter.unusedSimpArgs false
namespace Go.Proofs.YtbkncfedahifkaaGreat
open Go.RowKit Go.Maps

section
variable {lb um b g m n sz turn next at_ count : Nat} {X : List Nat} {R : Nat → List UInt8}
theorem stB_lt : ∀ k a, stB R n sz k = some a → a < 18446744073709551616
  | 0, a, h => by cases h
  | k + 1, a, h => by
    unfold stB stepB at h
    split at h
    · exact stB_lt k a h
    · rename_i c hc
      have h1 := okSide_lt hc
      split at h
      · injection h with h; omega
      · rename_i d hd
        have h2 := stB_lt k d hd
        split at h <;> (injection h with h; omega)
set_option maxRecDepth 100000 in
set_option maxHeartbeats 4000000 in
theorem begin_any (w : World) (h : LogS w lb um b g m X n sz R turn next at_ count) :
    Calls Tryz.prog 76 #[.pointer (some ⟨lb, 0, none⟩)] w fun e w' => e = .returned (.int .i64 0) ∧ LogS w' lb um b g m X n sz R ((stB R n sz 2).getD turn) next at_ count ∧ Ch [lb] w w' := by
  have hmf : ∀ (fn : Fn) (first cap : Array Value) (w : World), (Instr.makeFunc fn first cap).run Tryz.prog w = .ok (.func fn first cap) w := fun _ _ _ _ => rfl
  have hlbl := lt_of_at h.cells
  have h0 := h.nil ((Ch.refl [] w).alloc (.cells #[.pointer (some ⟨lb, 0, none⟩)] 97))
  have hlp := heap_alloc_new w (.cells #[.pointer (some ⟨lb, 0, none⟩)] 97)
  have hc0 : Ch [lb] w (w.alloc (.cells #[.pointer (some ⟨lb, 0, none⟩)] 97)) := (Ch.refl _ _).alloc _
  go_enter Tryz.func76, Tryz.ntmps76
  go_wp2_with fail
  generalize hlpe : w.heap.size = lp at *
  generalize hw0 : w.alloc (.cells #[.pointer (some ⟨lb, 0, none⟩)] 97) = w0 at *
  have HLPE := Lib.hid hlpe
  clear hw0 hlpe
  go_loopw [3, 8] (fun f i wr => ∃ k : Nat, k ≤ 2 ∧ i = .int .i64 k ∧ f = .bool (stB R n sz k).isSome ∧ LogS wr lb um b g m X n sz R ((stB R n sz k).getD turn) next at_ count ∧ wr.heap[lp]? = some (.cells #[.pointer (some ⟨lb, 0, none⟩)] 97 (0, 0)) ∧ Ch [lb] w wr) (fun _ i _ => 2 - (intOf i).toNat)
  case atStart => exact ⟨0, by omega, rfl, rfl, h0, hlp, hc0⟩
  case round =>
    clear h0 hlp hc0
    obtain ⟨k, hk, rfl, rfl, hL, hlp, hch⟩ := hrel
    obtain ⟨wA, hwA⟩ : ∃ W, W = wr := ⟨_, rfl⟩
    subst hwA
    have hchs := hch.size
    by_cases hlt : k < 2
    · have hstep : stB R n sz (k + 1) = stepB (stB R n sz k) (okSide R n sz k) := rfl
      have hstl := stB_lt (R := R) (n := n) (sz := sz) k
      have HST := Lib.hid hstl
      have HSP := Lib.hid hstep
      clear hstep hstl
      generalize hst : stB R n sz k = st at *
      have HSE := Lib.hid hst
      clear hst
      have hcA : Ch [] wA ((wA.alloc (.cells #[.int .i64 (k : Int)] 3)).alloc (.cells #[.int .u64 0] 127)) := ((Ch.refl [] wA).alloc _).alloc _
      have hsp := heap_alloc2_old wA (.cells #[.int .i64 (k : Int)] 3) (.cells #[.int .u64 0] 127)
      have htp := heap_alloc2_new wA (.cells #[.int .i64 (k : Int)] 3) (.cells #[.int .u64 0] 127)
      have hsz2 : ((wA.alloc (.cells #[.int .i64 (k : Int)] 3)).alloc (.cells #[.int .u64 0] 127)).heap.size = wA.heap.size + 2 := by simp
      go_wp2_with fail
      generalize hw2 : (wA.alloc (.cells #[.int .i64 (k : Int)] 3)).alloc (.cells #[.int .u64 0] 127) = w2 at *
      clear hw2
      have hL2 := hL.nil hcA
      have hlp2 := hcA.at_ hlp (by simp)
      have htry := wtry_any 108 #[.pointer (some ⟨lp, 0, none⟩), .pointer (some ⟨wA.heap.size, 0, none⟩), .pointer (some ⟨wA.heap.size + 1, 0, none⟩)] [wA.heap.size + 1]
        (fun w' => ∃ t, okSide R n sz k = some t ∧ w'.heap[wA.heap.size + 1]? = some (.cells #[.int .u64 (t : Int)] 127 (0, 0))) (fun _ => okSide R n sz k = none) w2
        (fun W => (enters_of Tryz.func108 (by kernel_rfl) rfl) _ W) (by simp; omega)
        (fun w1 w2' ⟨t, h1, h2⟩ hc => ⟨t, h1, hc.at_ h2 (by simp; omega)⟩) (fun _ _ h _ => h)
        (fun W hW _ => beginC_any lp _ _ k _ W (hL2.nil hW) hlt (hW.at_ hlp2 (by simp)) (hW.at_ hsp (by simp)) (hW.at_ htp (by simp)))
      refine htry.mono ?_
      rintro e w3 ⟨hc3, he⟩
      clear htry
      have hcA3 : Ch [] wA w3 := hcA.trans hc3 (by simp)
      have hL3 := hL.nil hcA3
      have hlp3 := hcA3.at_ hlp (by simp)
      have hc3w : Ch [lb] w w3 := hch.trans hcA3 (by simp)
      rcases he with ⟨rfl, t, hok, htp3⟩ | ⟨rfl, hok⟩
      · have htb := okSide_lt hok
        have clp := cell_at hlp3 0 rfl
        have ctp := cell_at htp3 0 rfl
        have cl1 := cell_at hL3.cells 1 rfl
        have fl1 := free_at hL3.cells 1
        have hset := heap_setCell_same w3 lb 1 _ 146 (.int .u64 (t : Int)) hL3.cells
        have hL4 := hL3.re ((Ch.refl [lb] w3).setCell ⟨lb, 1, none⟩ (.int .u64 (t : Int)) (by simp)) (turn' := t) (next' := next) (at' := at_) (count' := count) (by simpa using hset) htb hL3.nextB hL3.atB hL3.countB
        have hlb3 : lp ≠ lb := by have := HLPE.out; omega
        have hlp4 := ((Ch.refl [lb] w3).setCell ⟨lb, 1, none⟩ (.int .u64 (t : Int)) (by simp)).at_ hlp3 (by simpa using hlb3)
        have hc4 := hc3w.setCell ⟨lb, 1, none⟩ (.int .u64 (t : Int)) (by simp)
        have HOK := Lib.hid hok
        have HL4 := Lib.hid (show _ ∧ _ ∧ _ from ⟨hL4, hlp4, hc4⟩)
        clear hok hset hL4 hlp4 hc4 htp3
        cases st with
        | none =>
          have hs1 : stB R n sz (k + 1) = some t := by rw [HSP.out, HOK.out]; rfl
          have HS1 := Lib.hid hs1
          clear hs1
          simp only [Option.isSome_none]
          go_wp2_with fail
          refine dr_begin (by kernel_rfl) ?_
          have hT : True := trivial
          refine dr_take 0 (some 21) (v := ?_) rfl rfl (by kernel_rfl) (by kernel_rfl) (by kernel_rfl) (fun _ _ _ h => h) rfl hT (fun W _ => ?_) ?_
          rotate_left
          · (go_simp; try with_reducible rfl)
          try simp only [Act.put, List.setIfInBounds_toArray, List.set_cons_zero, List.set_cons_succ]
          refine dr_take 1 (some 22) (v := ?_) rfl rfl (by kernel_rfl) (by kernel_rfl) (by kernel_rfl) (fun _ _ _ h => h) rfl hT (fun W _ => ?_) ?_
          rotate_left
          · (go_simp; try with_reducible rfl)
          try simp only [Act.put, List.setIfInBounds_toArray, List.set_cons_zero, List.set_cons_succ]
          refine dr_take 2 (some 23) (v := ?_) rfl rfl (by kernel_rfl) (by kernel_rfl) (by kernel_rfl) (fun _ _ _ h => h) rfl hT (fun W _ => ?_) ?_
          rotate_left
          · (go_simp; try with_reducible rfl)
          try simp only [Act.put, List.setIfInBounds_toArray, List.set_cons_zero, List.set_cons_succ]
          refine dr_take 3 (some 24) (v := ?_) rfl rfl (by kernel_rfl) (by kernel_rfl) (by kernel_rfl) (fun _ _ _ h => h) rfl hT (fun W _ => ?_) ?_
          rotate_left
          · (go_simp; try with_reducible rfl)
          try simp only [Act.put, List.setIfInBounds_toArray, List.set_cons_zero, List.set_cons_succ]
          refine dr_take 4 (some 25) (v := ?_) rfl rfl (by kernel_rfl) (by kernel_rfl) (by kernel_rfl) (fun _ _ _ h => h) rfl hT (fun W _ => ?_) ?_
          rotate_left
          · (go_simp; try with_reducible rfl)
          try simp only [Act.put, List.setIfInBounds_toArray, List.set_cons_zero, List.set_cons_succ]
          refine dr_skip 5 (some 26) rfl rfl (by kernel_rfl) (by kernel_rfl) (by kernel_rfl) (fun _ _ _ h => h) rfl hT ?_
          try simp only [Act.put, List.setIfInBounds_toArray, List.set_cons_zero, List.set_cons_succ]
          refine dr_skip 6 (some 27) rfl rfl (by kernel_rfl) (by kernel_rfl) (by kernel_rfl) (fun _ _ _ h => h) rfl hT ?_
          try simp only [Act.put, List.setIfInBounds_toArray, List.set_cons_zero, List.set_cons_succ]
          refine dr_skip 7 (some 28) rfl rfl (by kernel_rfl) (by kernel_rfl) (by kernel_rfl) (fun _ _ _ h => h) rfl hT ?_
          try simp only [Act.put, List.setIfInBounds_toArray, List.set_cons_zero, List.set_cons_succ]
          refine dr_skip 8 (some 29) rfl rfl (by kernel_rfl) (by kernel_rfl) (by kernel_rfl) (fun _ _ _ h => h) rfl hT ?_
          try simp only [Act.put, List.setIfInBounds_toArray, List.set_cons_zero, List.set_cons_succ]
          refine dr_skip 9 (some 30) rfl rfl (by kernel_rfl) (by kernel_rfl) (by kernel_rfl) (fun _ _ _ h => h) rfl hT ?_
          try simp only [Act.put, List.setIfInBounds_toArray, List.set_cons_zero, List.set_cons_succ]
          refine dr_skip 10 (some 31) rfl rfl (by kernel_rfl) (by kernel_rfl) (by kernel_rfl) (fun _ _ _ h => h) rfl hT ?_
          try simp only [Act.put, List.setIfInBounds_toArray, List.set_cons_zero, List.set_cons_succ]
          refine dr_skip 11 (some 32) rfl rfl (by kernel_rfl) (by kernel_rfl) (by kernel_rfl) (fun _ _ _ h => h) rfl hT ?_
          try simp only [Act.put, List.setIfInBounds_toArray, List.set_cons_zero, List.set_cons_succ]
          refine dr_skip 12 (some 33) rfl rfl (by kernel_rfl) (by kernel_rfl) (by kernel_rfl) (fun _ _ _ h => h) rfl hT ?_
          try simp only [Act.put, List.setIfInBounds_toArray, List.set_cons_zero, List.set_cons_succ]
          refine dr_take 13 (some 34) (v := ?_) rfl rfl (by kernel_rfl) (by kernel_rfl) (by kernel_rfl) (fun _ _ _ h => h) rfl hT (fun W _ => ?_) ?_
          rotate_left
          · (go_simp; try with_reducible rfl)
          try simp only [Act.put, List.setIfInBounds_toArray, List.set_cons_zero, List.set_cons_succ]
          refine dr_take 14 (some 35) (v := ?_) rfl rfl (by kernel_rfl) (by kernel_rfl) (by kernel_rfl) (fun _ _ _ h => h) rfl hT (fun W _ => ?_) ?_
          rotate_left
          · (go_simp; try with_reducible rfl)
          try simp only [Act.put, List.setIfInBounds_toArray, List.set_cons_zero, List.set_cons_succ]
          refine dr_take 15 (some 20) (v := ?_) rfl rfl (by kernel_rfl) (by kernel_rfl) (by kernel_rfl) (fun _ _ _ h => h) rfl hT (fun W _ => ?_) ?_
          rotate_left
          · (go_simp; try with_reducible rfl)
          try simp only [Act.put, List.setIfInBounds_toArray, List.set_cons_zero, List.set_cons_succ]
          refine dr_done (by kernel_rfl) ?_
          go_wp2_with fail
          go_roundw
          case rel => exact ⟨k + 1, by omega, by go_num, by rw [HS1.out]; rfl, by rw [HS1.out]; exact HL4.out.1.nil (Ch.refl _ _).drew, HL4.out.2.1, HL4.out.2.2.drew⟩
          case measure => simp [intOf]; omega
        | some a =>
          simp only [Option.isSome_some]
          simp only [Option.getD_some] at cl1
          have hnewE : ∀ q, newer a t = q → decide (IntKind.i64.wrap (IntKind.u64.wrap ((t : Int) - (a : Int))) > 0) = q := fun q h => h
          cases hnew : newer a t with
          | true =>
            have hs1 : stB R n sz (k + 1) = some t := by rw [HSP.out, HOK.out]; simp [stepB, hnew]
            have hgt := hnewE _ hnew
            have HS1 := Lib.hid hs1
            clear hs1 hnewE hnew
            go_wp2_with fail
            refine dr_begin (by kernel_rfl) ?_
            refine dr_more (fun W => W.cell? ⟨wA.heap.size + 1, 0, none⟩ = some (.int .u64 (t : Int)) ∧ W.cell? ⟨lp, 0, none⟩ = some (.pointer (some ⟨lb, 0, none⟩)) ∧ W.cell? ⟨lb, 1, none⟩ = some (.int .u64 (a : Int))) ?_
            have hT : True ∧ (w3.drew.cell? ⟨wA.heap.size + 1, 0, none⟩ = some (.int .u64 (t : Int)) ∧ w3.drew.cell? ⟨lp, 0, none⟩ = some (.pointer (some ⟨lb, 0, none⟩)) ∧ w3.drew.cell? ⟨lb, 1, none⟩ = some (.int .u64 (a : Int))) := ⟨trivial, ctp, clp, cl1⟩
            refine dr_take 0 (some 21) (v := ?_) rfl rfl (by kernel_rfl) (by kernel_rfl) (by kernel_rfl) (fun _ _ _ h => h) rfl hT (fun W _ => ?_) ?_
            rotate_left
            · (go_simp; try with_reducible rfl)
            try simp only [Act.put, List.setIfInBounds_toArray, List.set_cons_zero, List.set_cons_succ]
            refine dr_take 1 (some 22) (v := ?_) rfl rfl (by kernel_rfl) (by kernel_rfl) (by kernel_rfl) (fun _ _ _ h => h) rfl hT (fun W _ => ?_) ?_
            rotate_left
            · (go_simp; try with_reducible rfl)
            try simp only [Act.put, List.setIfInBounds_toArray, List.set_cons_zero, List.set_cons_succ]
            refine dr_take 2 (some 23) (v := ?_) rfl rfl (by kernel_rfl) (by kernel_rfl) (by kernel_rfl) (fun _ _ _ h => h) rfl hT (fun W _ => ?_) ?_
            rotate_left
            · (go_simp; try with_reducible rfl)
            try simp only [Act.put, List.setIfInBounds_toArray, List.set_cons_zero, List.set_cons_succ]
            refine dr_take 3 (some 24) (v := ?_) rfl rfl (by kernel_rfl) (by kernel_rfl) (by kernel_rfl) (fun _ _ _ h => h) rfl hT (fun W _ => ?_) ?_
            rotate_left
            · (go_simp; try with_reducible rfl)
            try simp only [Act.put, List.setIfInBounds_toArray, List.set_cons_zero, List.set_cons_succ]
            refine dr_take 4 (some 25) (v := ?_) rfl rfl (by kernel_rfl) (by kernel_rfl) (by kernel_rfl) (fun _ _ _ h => h) rfl hT (fun W _ => ?_) ?_
            rotate_left
            · (go_simp; try with_reducible rfl)
            try simp only [Act.put, List.setIfInBounds_toArray, List.set_cons_zero, List.set_cons_succ]
            refine dr_take 5 (some 26) (v := ?_) rfl rfl (by kernel_rfl) (by kernel_rfl) (by kernel_rfl) (fun _ _ _ h => h) rfl hT (fun W hW => ?_) ?_
            rotate_left
            · (obtain ⟨-, h1, h2, h3⟩ := hW; go_simp; try with_reducible rfl)
            try simp only [Act.put, List.setIfInBounds_toArray, List.set_cons_zero, List.set_cons_succ]
            refine dr_take 6 (some 27) (v := ?_) rfl rfl (by kernel_rfl) (by kernel_rfl) (by kernel_rfl) (fun _ _ _ h => h) rfl hT (fun W hW => ?_) ?_
            rotate_left
            · (obtain ⟨-, h1, h2, h3⟩ := hW; go_simp; try with_reducible rfl)
            try simp only [Act.put, List.setIfInBounds_toArray, List.set_cons_zero, List.set_cons_succ]
            refine dr_take 7 (some 28) (v := ?_) rfl rfl (by kernel_rfl) (by kernel_rfl) (by kernel_rfl) (fun _ _ _ h => h) rfl hT (fun W _ => ?_) ?_
            rotate_left
            · (go_simp; try with_reducible rfl)
            try simp only [Act.put, List.setIfInBounds_toArray, List.set_cons_zero, List.set_cons_succ]
            refine dr_take 8 (some 29) (v := ?_) rfl rfl (by kernel_rfl) (by kernel_rfl) (by kernel_rfl) (fun _ _ _ h => h) rfl hT (fun W _ => ?_) ?_
            rotate_left
            · (go_simp; try with_reducible rfl)
            try simp only [Act.put, List.setIfInBounds_toArray, List.set_cons_zero, List.set_cons_succ]
            refine dr_take 9 (some 30) (v := ?_) rfl rfl (by kernel_rfl) (by kernel_rfl) (by kernel_rfl) (fun _ _ _ h => h) rfl hT (fun W hW => ?_) ?_
            rotate_left
            · (obtain ⟨-, h1, h2, h3⟩ := hW; go_simp; try with_reducible rfl)
            try simp only [Act.put, List.setIfInBounds_toArray, List.set_cons_zero, List.set_cons_succ]
            refine dr_take 10 (some 31) (v := ?_) rfl rfl (by kernel_rfl) (by kernel_rfl) (by kernel_rfl) (fun _ _ _ h => h) rfl hT (fun W _ => ?_) ?_
            rotate_left
            · (go_simp; try with_reducible rfl)
            try simp only [Act.put, List.setIfInBounds_toArray, List.set_cons_zero, List.set_cons_succ]
            refine dr_take 11 (some 32) (v := ?_) rfl rfl (by kernel_rfl) (by kernel_rfl) (by kernel_rfl) (fun _ _ _ h => h) rfl hT (fun W _ => ?_) ?_
            rotate_left
            · (go_simp; try with_reducible rfl)
            try simp only [Act.put, List.setIfInBounds_toArray, List.set_cons_zero, List.set_cons_succ]
            refine dr_take 12 (some 33) (v := ?_) rfl rfl (by kernel_rfl) (by kernel_rfl) (by kernel_rfl) (fun _ _ _ h => h) rfl hT (fun W _ => ?_) ?_
            rotate_left
            · (go_simp; try with_reducible rfl)
            try simp only [Act.put, List.setIfInBounds_toArray, List.set_cons_zero, List.set_cons_succ]
            refine dr_take 13 (some 34) (v := ?_) rfl rfl (by kernel_rfl) (by kernel_rfl) (by kernel_rfl) (fun _ _ _ h => h) rfl hT (fun W _ => ?_) ?_
            rotate_left
            · (go_simp; try with_reducible rfl)
            try simp only [Act.put, List.setIfInBounds_toArray, List.set_cons_zero, List.set_cons_succ]
            refine dr_take 14 (some 35) (v := ?_) rfl rfl (by kernel_rfl) (by kernel_rfl) (by kernel_rfl) (fun _ _ _ h => h) rfl hT (fun W _ => ?_) ?_
            rotate_left
            · (go_simp; try with_reducible rfl)
            try simp only [Act.put, List.setIfInBounds_toArray, List.set_cons_zero, List.set_cons_succ]
            refine dr_take 15 (some 20) (v := ?_) rfl rfl (by kernel_rfl) (by kernel_rfl) (by kernel_rfl) (fun _ _ _ h => h) rfl hT (fun W _ => ?_) ?_
            rotate_left
            · (go_simp; try with_reducible rfl)
            try simp only [Act.put, List.setIfInBounds_toArray, List.set_cons_zero, List.set_cons_succ]
            refine dr_done (by kernel_rfl) ?_
            go_wp2_with fail
            go_roundw
            case rel => exact ⟨k + 1, by omega, by go_num, by rw [HS1.out]; rfl, by rw [HS1.out]; exact HL4.out.1.nil (Ch.refl _ _).drew, HL4.out.2.1, HL4.out.2.2.drew⟩
            case measure => simp [intOf]; omega
          | false =>
            have hs1 : stB R n sz (k + 1) = some a := by rw [HSP.out, HOK.out]; simp [stepB, hnew]
            have hgt := hnewE _ hnew
            have HS1 := Lib.hid hs1
            clear hs1 hnewE hnew
            go_wp2_with fail
            refine dr_begin (by kernel_rfl) ?_
            refine dr_more (fun W => W.cell? ⟨wA.heap.size + 1, 0, none⟩ = some (.int .u64 (t : Int)) ∧ W.cell? ⟨lp, 0, none⟩ = some (.pointer (some ⟨lb, 0, none⟩)) ∧ W.cell? ⟨lb, 1, none⟩ = some (.int .u64 (a : Int))) ?_
            have hT : True ∧ (w3.drew.cell? ⟨wA.heap.size + 1, 0, none⟩ = some (.int .u64 (t : Int)) ∧ w3.drew.cell? ⟨lp, 0, none⟩ = some (.pointer (some ⟨lb, 0, none⟩)) ∧ w3.drew.cell? ⟨lb, 1, none⟩ = some (.int .u64 (a : Int))) := ⟨trivial, ctp, clp, cl1⟩
            refine dr_take 0 (some 21) (v := ?_) rfl rfl (by kernel_rfl) (by kernel_rfl) (by kernel_rfl) (fun _ _ _ h => h) rfl hT (fun W _ => ?_) ?_
            rotate_left
            · (go_simp; try with_reducible rfl)
            try simp only [Act.put, List.setIfInBounds_toArray, List.set_cons_zero, List.set_cons_succ]
            refine dr_take 1 (some 22) (v := ?_) rfl rfl (by kernel_rfl) (by kernel_rfl) (by kernel_rfl) (fun _ _ _ h => h) rfl hT (fun W _ => ?_) ?_
            rotate_left
            · (go_simp; try with_reducible rfl)
            try simp only [Act.put, List.setIfInBounds_toArray, List.set_cons_zero, List.set_cons_succ]
            refine dr_take 2 (some 23) (v := ?_) rfl rfl (by kernel_rfl) (by kernel_rfl) (by kernel_rfl) (fun _ _ _ h => h) rfl hT (fun W _ => ?_) ?_
            rotate_left
            · (go_simp; try with_reducible rfl)
            try simp only [Act.put, List.setIfInBounds_toArray, List.set_cons_zero, List.set_cons_succ]
            refine dr_take 3 (some 24) (v := ?_) rfl rfl (by kernel_rfl) (by kernel_rfl) (by kernel_rfl) (fun _ _ _ h => h) rfl hT (fun W _ => ?_) ?_
            rotate_left
            · (go_simp; try with_reducible rfl)
            try simp only [Act.put, List.setIfInBounds_toArray, List.set_cons_zero, List.set_cons_succ]
            refine dr_take 4 (some 25) (v := ?_) rfl rfl (by kernel_rfl) (by kernel_rfl) (by kernel_rfl) (fun _ _ _ h => h) rfl hT (fun W _ => ?_) ?_
            rotate_left
            · (go_simp; try with_reducible rfl)
            try simp only [Act.put, List.setIfInBounds_toArray, List.set_cons_zero, List.set_cons_succ]
            refine dr_take 5 (some 26) (v := ?_) rfl rfl (by kernel_rfl) (by kernel_rfl) (by kernel_rfl) (fun _ _ _ h => h) rfl hT (fun W hW => ?_) ?_
            rotate_left
            · (obtain ⟨-, h1, h2, h3⟩ := hW; go_simp; try with_reducible rfl)
            try simp only [Act.put, List.setIfInBounds_toArray, List.set_cons_zero, List.set_cons_succ]
            refine dr_take 6 (some 27) (v := ?_) rfl rfl (by kernel_rfl) (by kernel_rfl) (by kernel_rfl) (fun _ _ _ h => h) rfl hT (fun W hW => ?_) ?_
            rotate_left
            · (obtain ⟨-, h1, h2, h3⟩ := hW; go_simp; try with_reducible rfl)
            try simp only [Act.put, List.setIfInBounds_toArray, List.set_cons_zero, List.set_cons_succ]
            refine dr_take 7 (some 28) (v := ?_) rfl rfl (by kernel_rfl) (by kernel_rfl) (by kernel_rfl) (fun _ _ _ h => h) rfl hT (fun W _ => ?_) ?_
            rotate_left
            · (go_simp; try with_reducible rfl)
            try simp only [Act.put, List.setIfInBounds_toArray, List.set_cons_zero, List.set_cons_succ]
            refine dr_take 8 (some 29) (v := ?_) rfl rfl (by kernel_rfl) (by kernel_rfl) (by kernel_rfl) (fun _ _ _ h => h) rfl hT (fun W _ => ?_) ?_
            rotate_left
            · (go_simp; try with_reducible rfl)
            try simp only [Act.put, List.setIfInBounds_toArray, List.set_cons_zero, List.set_cons_succ]
            refine dr_take 9 (some 30) (v := ?_) rfl rfl (by kernel_rfl) (by kernel_rfl) (by kernel_rfl) (fun _ _ _ h => h) rfl hT (fun W hW => ?_) ?_
            rotate_left
            · (obtain ⟨-, h1, h2, h3⟩ := hW; go_simp; try with_reducible rfl)
            try simp only [Act.put, List.setIfInBounds_toArray, List.set_cons_zero, List.set_cons_succ]
            refine dr_take 10 (some 31) (v := ?_) rfl rfl (by kernel_rfl) (by kernel_rfl) (by kernel_rfl) (fun _ _ _ h => h) rfl hT (fun W _ => ?_) ?_
            rotate_left
            · (go_simp; try with_reducible rfl)
            try simp only [Act.put, List.setIfInBounds_toArray, List.set_cons_zero, List.set_cons_succ]
            refine dr_take 11 (some 32) (v := ?_) rfl rfl (by kernel_rfl) (by kernel_rfl) (by kernel_rfl) (fun _ _ _ h => h) rfl hT (fun W _ => ?_) ?_
            rotate_left
            · (go_simp; try with_reducible rfl)
            try simp only [Act.put, List.setIfInBounds_toArray, List.set_cons_zero, List.set_cons_succ]
            refine dr_take 12 (some 33) (v := ?_) rfl rfl (by kernel_rfl) (by kernel_rfl) (by kernel_rfl) (fun _ _ _ h => h) rfl hT (fun W _ => ?_) ?_
            rotate_left
            · (go_simp; try with_reducible rfl)
            try simp only [Act.put, List.setIfInBounds_toArray, List.set_cons_zero, List.set_cons_succ]
            refine dr_take 13 (some 34) (v := ?_) rfl rfl (by kernel_rfl) (by kernel_rfl) (by kernel_rfl) (fun _ _ _ h => h) rfl hT (fun W _ => ?_) ?_
            rotate_left
            · (go_simp; try with_reducible rfl)
            try simp only [Act.put, List.setIfInBounds_toArray, List.set_cons_zero, List.set_cons_succ]
            refine dr_take 14 (some 35) (v := ?_) rfl rfl (by kernel_rfl) (by kernel_rfl) (by kernel_rfl) (fun _ _ _ h => h) rfl hT (fun W _ => ?_) ?_
            rotate_left
            · (go_simp; try with_reducible rfl)
            try simp only [Act.put, List.setIfInBounds_toArray, List.set_cons_zero, List.set_cons_succ]
            refine dr_take 15 (some 20) (v := ?_) rfl rfl (by kernel_rfl) (by kernel_rfl) (by kernel_rfl) (fun _ _ _ h => h) rfl hT (fun W _ => ?_) ?_
            rotate_left
            · (go_simp; try with_reducible rfl)
            try simp only [Act.put, List.setIfInBounds_toArray, List.set_cons_zero, List.set_cons_succ]
            refine dr_done (by kernel_rfl) ?_
            go_wp2_with fail
            go_roundw
            case rel => exact ⟨k + 1, by omega, by go_num, by rw [HS1.out]; rfl, by rw [HS1.out]; exact hL3.nil (Ch.refl _ _).drew, hlp3, hc3w.drew⟩
            case measure => simp [intOf]; omega
      · have hs1 : stB R n sz (k + 1) = st := by rw [HSP.out, hok]; rfl
        have HS1 := Lib.hid hs1
        clear hs1 hok
        go_wp2_with fail
        refine dr_begin (by kernel_rfl) ?_
        have hT : True := trivial
        refine dr_take 0 (some 21) (v := ?_) rfl rfl (by kernel_rfl) (by kernel_rfl) (by kernel_rfl) (fun _ _ _ h => h) rfl hT (fun W _ => ?_) ?_
        rotate_left
        · (go_simp; try with_reducible rfl)
        try simp only [Act.put, List.setIfInBounds_toArray, List.set_cons_zero, List.set_cons_succ]
        refine dr_take 1 (some 22) (v := ?_) rfl rfl (by kernel_rfl) (by kernel_rfl) (by kernel_rfl) (fun _ _ _ h => h) rfl hT (fun W _ => ?_) ?_
        rotate_left
        · (go_simp; try with_reducible rfl)
        try simp only [Act.put, List.setIfInBounds_toArray, List.set_cons_zero, List.set_cons_succ]
        refine dr_skip 2 (some 23) rfl rfl (by kernel_rfl) (by kernel_rfl) (by kernel_rfl) (fun _ _ _ h => h) rfl hT ?_
        try simp only [Act.put, List.setIfInBounds_toArray, List.set_cons_zero, List.set_cons_succ]
        refine dr_skip 3 (some 24) rfl rfl (by kernel_rfl) (by kernel_rfl) (by kernel_rfl) (fun _ _ _ h => h) rfl hT ?_
        try simp only [Act.put, List.setIfInBounds_toArray, List.set_cons_zero, List.set_cons_succ]
        refine dr_skip 4 (some 25) rfl rfl (by kernel_rfl) (by kernel_rfl) (by kernel_rfl) (fun _ _ _ h => h) rfl hT ?_
        try simp only [Act.put, List.setIfInBounds_toArray, List.set_cons_zero, List.set_cons_succ]
        refine dr_skip 5 (some 26) rfl rfl (by kernel_rfl) (by kernel_rfl) (by kernel_rfl) (fun _ _ _ h => h) rfl hT ?_
        try simp only [Act.put, List.setIfInBounds_toArray, List.set_cons_zero, List.set_cons_succ]
        refine dr_skip 6 (some 27) rfl rfl (by kernel_rfl) (by kernel_rfl) (by kernel_rfl) (fun _ _ _ h => h) rfl hT ?_
        try simp only [Act.put, List.setIfInBounds_toArray, List.set_cons_zero, List.set_cons_succ]
        refine dr_skip 7 (some 28) rfl rfl (by kernel_rfl) (by kernel_rfl) (by kernel_rfl) (fun _ _ _ h => h) rfl hT ?_
        try simp only [Act.put, List.setIfInBounds_toArray, List.set_cons_zero, List.set_cons_succ]
        refine dr_skip 8 (some 29) rfl rfl (by kernel_rfl) (by kernel_rfl) (by kernel_rfl) (fun _ _ _ h => h) rfl hT ?_
        try simp only [Act.put, List.setIfInBounds_toArray, List.set_cons_zero, List.set_cons_succ]
        refine dr_skip 9 (some 30) rfl rfl (by kernel_rfl) (by kernel_rfl) (by kernel_rfl) (fun _ _ _ h => h) rfl hT ?_
        try simp only [Act.put, List.setIfInBounds_toArray, List.set_cons_zero, List.set_cons_succ]
        refine dr_skip 10 (some 31) rfl rfl (by kernel_rfl) (by kernel_rfl) (by kernel_rfl) (fun _ _ _ h => h) rfl hT ?_
        try simp only [Act.put, List.setIfInBounds_toArray, List.set_cons_zero, List.set_cons_succ]
        refine dr_skip 11 (some 32) rfl rfl (by kernel_rfl) (by kernel_rfl) (by kernel_rfl) (fun _ _ _ h => h) rfl hT ?_
        try simp only [Act.put, List.setIfInBounds_toArray, List.set_cons_zero, List.set_cons_succ]
        refine dr_skip 12 (some 33) rfl rfl (by kernel_rfl) (by kernel_rfl) (by kernel_rfl) (fun _ _ _ h => h) rfl hT ?_
        try simp only [Act.put, List.setIfInBounds_toArray, List.set_cons_zero, List.set_cons_succ]
        refine dr_skip 13 (some 34) rfl rfl (by kernel_rfl) (by kernel_rfl) (by kernel_rfl) (fun _ _ _ h => h) rfl hT ?_
        try simp only [Act.put, List.setIfInBounds_toArray, List.set_cons_zero, List.set_cons_succ]
        refine dr_take 14 (some 35) (v := ?_) rfl rfl (by kernel_rfl) (by kernel_rfl) (by kernel_rfl) (fun _ _ _ h => h) rfl hT (fun W _ => ?_) ?_
        rotate_left
        · (go_simp; try with_reducible rfl)
        try simp only [Act.put, List.setIfInBounds_toArray, List.set_cons_zero, List.set_cons_succ]
        refine dr_take 15 (some 20) (v := ?_) rfl rfl (by kernel_rfl) (by kernel_rfl) (by kernel_rfl) (fun _ _ _ h => h) rfl hT (fun W _ => ?_) ?_
        rotate_left
        · (go_simp; try with_reducible rfl)
        try simp only [Act.put, List.setIfInBounds_toArray, List.set_cons_zero, List.set_cons_succ]
        refine dr_done (by kernel_rfl) ?_
        go_wp2_with fail
        go_roundw
        case rel => exact ⟨k + 1, by omega, by go_num, by rw [HS1.out], by rw [HS1.out]; exact hL3.nil (Ch.refl _ _).drew, hlp3, hc3w.drew⟩
        case measure => simp [intOf]; omega
    · obtain rfl : k = 2 := by omega
      clear hlt hk
      go_wp2_with fail
      go_ret
      exact ⟨rfl, hL, hch⟩
end

end Go.Proofs.YtbkncfedahifkaaGreat

/-
  Package wal: Open.
-/
set_option linter.unusedVariables false
set_option linter.unusedSimpArgs false
namespace Go.Proofs.YtbkncfedahifkaaGreat
open Go.RowKit Go.Maps

/-- The next frame of a log. -/
def stepO (R : Nat → List UInt8) (n sz turn a nx : Nat) : Option (List (List UInt8) × Nat) := match openF R n sz (turn % 2) a nx with
  | some (t, rs, bh) => if t = turn then some (rs, bh) else none
  | none => none
/-- All its frames from there on. -/
def openAll (R : Nat → List UInt8) (n sz turn : Nat) : Nat → Nat → Nat → List (List UInt8) × Nat × Nat
  | 0, a, nx => ([], a, nx)
  | f + 1, a, nx => match stepO R n sz turn a nx with
    | none => ([], a, nx)
    | some (rs, bh) => (rs ++ (openAll R n sz turn f bh (nx + 1)).1, (openAll R n sz turn f bh (nx + 1)).2)
theorem recsP_len : ∀ (f : Nat) (l : List UInt8) (rs : List (List UInt8)), recsP f l = some rs → 4 * rs.length ≤ l.length
  | 0, l, rs, h => by cases h
  | f + 1, l, rs, h => by
    unfold recsP at h
    split at h
    · injection h with h; subst h; simp
    · split at h
      · cases h
      · split at h
        · obtain ⟨q, h1, h2⟩ := Option.map_eq_some_iff.1 h
          have h3 := recsP_len f _ q h1
          subst h2
          rw [List.length_drop] at h3
          simp only [List.length_cons]
          omega
        · cases h
theorem secsN_ge (S k : Nat) (hS : 0 < S) (hk : 0 < k) : 1 ≤ secsN S k ∧ k ≤ secsN S k * S := by
  unfold secsN
  have hd := Nat.div_add_mod k S
  rw [Nat.mul_comm] at hd
  have hmod := Nat.mod_lt k hS
  generalize k / S = q at *
  generalize k % S = r at *
  rcases Nat.eq_zero_or_pos r with hz | hz
  · subst hz
    simp only [Nat.zero_min, Nat.add_zero] at hd ⊢
    refine ⟨?_, by omega⟩
    rcases Nat.eq_zero_or_pos q with hq | hq
    · subst hq; omega
    · exact hq
  · rw [show min r 1 = 1 from by omega, Nat.add_mul, Nat.one_mul]
    exact ⟨by omega, by omega⟩
theorem openF_some {R : Nat → List UInt8} {n sz side a nx t bh : Nat} {rs : List (List UInt8)} (h : openF R n sz side a nx = some (t, rs, bh)) (hn : n ≤ 4096) (hs : 128 ≤ sz) (hs2 : sz ≤ 4096) : a < bh ∧ bh ≤ n / 2 ∧ rs.length ≤ (bh - a) * 4096 := by
  unfold openF at h
  simp only at h
  split at h
  · rename_i hc
    obtain ⟨q, h1, e⟩ := Option.map_eq_some_iff.1 h
    simp only [Prod.mk.injEq] at e
    obtain ⟨_, rfl, rfl⟩ := e
    generalize deN ((((R (side * (n / 2) + a)).take (sz - 16)).drop 24).take 8) = m at *
    have h2 := recsP_len _ _ _ h1
    rw [List.length_take] at h2
    have h3 := secsN_le (sz - 16) (32 + m) (n / 2 - a) (by omega) (by omega)
    have hS : 0 < sz - 16 := by omega
    have h4 := secsN_ge (sz - 16) (32 + m) hS (by omega)
    have h5 : secsN (sz - 16) (32 + m) * (sz - 16) ≤ secsN (sz - 16) (32 + m) * 4096 := Nat.mul_le_mul_left _ (by omega)
    refine ⟨by omega, by omega, ?_⟩
    rw [show a + secsN (sz - 16) (32 + m) - a = secsN (sz - 16) (32 + m) from by omega]
    omega
  · cases h
theorem stepO_some {R : Nat → List UInt8} {n sz turn a nx bh : Nat} {rs : List (List UInt8)} (h : stepO R n sz turn a nx = some (rs, bh)) (hn : n ≤ 4096) (hs : 128 ≤ sz) (hs2 : sz ≤ 4096) : a < bh ∧ bh ≤ n / 2 ∧ rs.length ≤ (bh - a) * 4096 := by
  unfold stepO at h
  split at h
  · rename_i t q b ho
    split at h
    · simp only [Option.some.injEq, Prod.mk.injEq] at h
      obtain ⟨rfl, rfl⟩ := h
      exact openF_some ho hn hs hs2
    · cases h
  · cases h

section
variable {lb um b g m n sz turn next at_ count : Nat} {X : List Nat} {R : Nat → List UInt8}
set_option maxRecDepth 100000 in
set_option maxHeartbeats 2000000 in
theorem openC_any (lv rp bp : Nat) (v0 z0 : Value) (w : World) (h : LogS w lb um b g m X n sz R turn next at_ count) (hnx : next < 9223372036854775808) (hlv : w.heap[lv]? = some (.cells #[.pointer (some ⟨lb, 0, none⟩)] 97 (0, 0)))
    (hrp : w.heap[rp]? = some (.cells #[v0] 77 (0, 0))) (hbp : w.heap[bp]? = some (.cells #[z0] 3 (0, 0))) :
    Calls Tryz.prog 78 #[.pointer (some ⟨lv, 0, none⟩), .pointer (some ⟨rp, 0, none⟩), .pointer (some ⟨bp, 0, none⟩)] w fun e w' => Ch [rp, bp] w w' ∧
      ((e = .returned (.tuple #[]) ∧ ∃ rs bh v, stepO R n sz turn at_ next = some (rs, bh) ∧ w'.heap[rp]? = some (.cells #[v] 77 (0, 0)) ∧ w'.heap[bp]? = some (.cells #[.int .i64 (bh : Int)] 3 (0, 0)) ∧ RowsO w' w.heap.size v rs) ∨ (e = .panicked stopW ∧ stepO R n sz turn at_ next = none)) := by
  have hb := h.bds
  have hop := open_any (turn % 2) at_ next w.drew (h.nil (Ch.refl _ _).drew) (by omega) hnx (by have := h.atB; omega)
  rw [show ((turn % 2 : Nat) : Int) = (turn : Int) % 2 from by omega] at hop
  have clv := cell_at hlv 0 rfl
  have cl1 := cell_at h.cells 1 rfl
  have cl2 := cell_at h.cells 2 rfl
  have cl3 := cell_at h.cells 3 rfl
  have htB := h.turnB
  have hrb : rp ≠ bp := by
    rintro rfl
    rw [hrp] at hbp
    simp only [Option.some.injEq, Obj.cells.injEq] at hbp
    exact absurd hbp.2.1 (by decide)
  have hlr : lv ≠ rp := by
    rintro rfl
    rw [hlv] at hrp
    simp only [Option.some.injEq, Obj.cells.injEq] at hrp
    exact absurd hrp.2.1 (by decide)
  have hlbp : lv ≠ bp := by
    rintro rfl
    rw [hlv] at hbp
    simp only [Option.some.injEq, Obj.cells.injEq] at hbp
    exact absurd hbp.2.1 (by decide)
  have htm : IntKind.i64.wrap ((turn : Int).tmod 2) = (turn : Int) % 2 := by
    rw [Int.tmod_eq_emod_of_nonneg (by omega), IntKind.wrap_i64]
    omega
  have HTM := Lib.hid htm
  have HOP := Lib.hid hop
  clear hop htm
  go_enter Tryz.func78, Tryz.ntmps78
  go_wp2_with fail
  refine dr_begin (by kernel_rfl) ?_
  refine dr_more (fun W => W.cell? ⟨lv, 0, none⟩ = some (.pointer (some ⟨lb, 0, none⟩)) ∧ W.cell? ⟨lb, 1, none⟩ = some (.int .u64 (turn : Int)) ∧ W.cell? ⟨lb, 3, none⟩ = some (.int .i64 (at_ : Int)) ∧ W.cell? ⟨lb, 2, none⟩ = some (.int .u64 (next : Int))) ?_
  have hT : True ∧ (w.drew.cell? ⟨lv, 0, none⟩ = some (.pointer (some ⟨lb, 0, none⟩)) ∧ w.drew.cell? ⟨lb, 1, none⟩ = some (.int .u64 (turn : Int)) ∧ w.drew.cell? ⟨lb, 3, none⟩ = some (.int .i64 (at_ : Int)) ∧ w.drew.cell? ⟨lb, 2, none⟩ = some (.int .u64 (next : Int))) := ⟨trivial, clv, cl1, cl3, cl2⟩
  refine dr_take 0 (some 7) (v := ?_) rfl rfl (by kernel_rfl) (by kernel_rfl) (by kernel_rfl) (fun _ _ _ h => h) rfl hT (fun W hW => ?_) ?_
  rotate_left
  · (obtain ⟨-, h1, h2, h3, h4⟩ := hW; go_simp; try with_reducible rfl)
  try simp only [Act.put, List.setIfInBounds_toArray, List.set_cons_zero, List.set_cons_succ]
  refine dr_take 1 (some 8) (v := ?_) rfl rfl (by kernel_rfl) (by kernel_rfl) (by kernel_rfl) (fun _ _ _ h => h) rfl hT (fun W hW => ?_) ?_
  rotate_left
  · (obtain ⟨-, h1, h2, h3, h4⟩ := hW; go_simp; try with_reducible rfl)
  try simp only [Act.put, List.setIfInBounds_toArray, List.set_cons_zero, List.set_cons_succ]
  refine dr_take 2 (some 9) (v := ?_) rfl rfl (by kernel_rfl) (by kernel_rfl) (by kernel_rfl) (fun _ _ _ h => h) rfl hT (fun W _ => ?_) ?_
  rotate_left
  · (go_simp; try with_reducible rfl)
  try simp only [Act.put, List.setIfInBounds_toArray, List.set_cons_zero, List.set_cons_succ]
  refine dr_take 3 (some 10) (v := ?_) rfl rfl (by kernel_rfl) (by kernel_rfl) (by kernel_rfl) (fun _ _ _ h => h) rfl hT (fun W _ => ?_) ?_
  rotate_left
  · (go_simp; try with_reducible rfl)
  try simp only [Act.put, List.setIfInBounds_toArray, List.set_cons_zero, List.set_cons_succ]
  refine dr_take 4 (some 11) (v := ?_) rfl rfl (by kernel_rfl) (by kernel_rfl) (by kernel_rfl) (fun _ _ _ h => h) rfl hT (fun W hW => ?_) ?_
  rotate_left
  · (obtain ⟨-, h1, h2, h3, h4⟩ := hW; go_simp; try with_reducible rfl)
  try simp only [Act.put, List.setIfInBounds_toArray, List.set_cons_zero, List.set_cons_succ]
  refine dr_take 5 (some 12) (v := ?_) rfl rfl (by kernel_rfl) (by kernel_rfl) (by kernel_rfl) (fun _ _ _ h => h) rfl hT (fun W _ => ?_) ?_
  rotate_left
  · (go_simp; try with_reducible rfl)
  try simp only [Act.put, List.setIfInBounds_toArray, List.set_cons_zero, List.set_cons_succ]
  refine dr_take 6 (some 13) (v := ?_) rfl rfl (by kernel_rfl) (by kernel_rfl) (by kernel_rfl) (fun _ _ _ h => h) rfl hT (fun W _ => ?_) ?_
  rotate_left
  · (go_simp; try with_reducible rfl)
  try simp only [Act.put, List.setIfInBounds_toArray, List.set_cons_zero, List.set_cons_succ]
  refine dr_take 7 (some 14) (v := ?_) rfl rfl (by kernel_rfl) (by kernel_rfl) (by kernel_rfl) (fun _ _ _ h => h) rfl hT (fun W hW => ?_) ?_
  rotate_left
  · (obtain ⟨-, h1, h2, h3, h4⟩ := hW; go_simp; try with_reducible rfl)
  try simp only [Act.put, List.setIfInBounds_toArray, List.set_cons_zero, List.set_cons_succ]
  refine dr_take 8 (some 15) (v := ?_) rfl rfl (by kernel_rfl) (by kernel_rfl) (by kernel_rfl) (fun _ _ _ h => h) rfl hT (fun W _ => ?_) ?_
  rotate_left
  · (go_simp; try with_reducible rfl)
  try simp only [Act.put, List.setIfInBounds_toArray, List.set_cons_zero, List.set_cons_succ]
  refine dr_take 9 (some 16) (v := ?_) rfl rfl (by kernel_rfl) (by kernel_rfl) (by kernel_rfl) (fun _ _ _ h => h) rfl hT (fun W _ => ?_) ?_
  rotate_left
  · (go_simp; try with_reducible rfl)
  try simp only [Act.put, List.setIfInBounds_toArray, List.set_cons_zero, List.set_cons_succ]
  refine dr_take 10 (some 17) (v := ?_) rfl rfl (by kernel_rfl) (by kernel_rfl) (by kernel_rfl) (fun _ _ _ h => h) rfl hT (fun W hW => ?_) ?_
  rotate_left
  · (obtain ⟨-, h1, h2, h3, h4⟩ := hW; go_simp; try with_reducible rfl)
  try simp only [Act.put, List.setIfInBounds_toArray, List.set_cons_zero, List.set_cons_succ]
  refine dr_take 11 (some 18) (v := ?_) rfl rfl (by kernel_rfl) (by kernel_rfl) (by kernel_rfl) (fun _ _ _ h => h) rfl hT (fun W hW => ?_) ?_
  rotate_left
  · (obtain ⟨-, h1, h2, h3, h4⟩ := hW; go_simp; try with_reducible rfl)
  try simp only [Act.put, List.setIfInBounds_toArray, List.set_cons_zero, List.set_cons_succ]
  refine dr_take 12 (some 19) (v := ?_) rfl rfl (by kernel_rfl) (by kernel_rfl) (by kernel_rfl) (fun _ _ _ h => h) rfl hT (fun W _ => ?_) ?_
  rotate_left
  · (go_simp; try with_reducible rfl)
  try simp only [Act.put, List.setIfInBounds_toArray, List.set_cons_zero, List.set_cons_succ]
  refine dr_take 13 (some 20) (v := ?_) rfl rfl (by kernel_rfl) (by kernel_rfl) (by kernel_rfl) (fun _ _ _ h => h) rfl hT (fun W _ => ?_) ?_
  rotate_left
  · (go_simp; try with_reducible rfl)
  try simp only [Act.put, List.setIfInBounds_toArray, List.set_cons_zero, List.set_cons_succ]
  refine dr_take 14 (some 21) (v := ?_) rfl rfl (by kernel_rfl) (by kernel_rfl) (by kernel_rfl) (fun _ _ _ h => h) rfl hT (fun W hW => ?_) ?_
  rotate_left
  · (obtain ⟨-, h1, h2, h3, h4⟩ := hW; go_simp; try with_reducible rfl)
  try simp only [Act.put, List.setIfInBounds_toArray, List.set_cons_zero, List.set_cons_succ]
  refine dr_step 15 rfl (by kernel_rfl) rfl (fun K hK => ?_)
  go_simp
  rw [HTM.out]
  refine HOP.out.mono ?_
  rintro e w1 ⟨hc1, he⟩
  have hcw1 : Ch [] w w1 := (Ch.refl _ _).drew.trans hc1 (by simp)
  cases ho : openF R n sz (turn % 2) at_ next with
  | none =>
    rw [ho] at he
    subst he
    have hk : stepO R n sz turn at_ next = none := by unfold stepO; rw [ho]
    exact ⟨rfl, hcw1.mono (by simp), .inr ⟨rfl, hk⟩⟩
  | some q =>
    obtain ⟨t, rs, bh⟩ := q
    rw [ho] at he
    obtain ⟨v, rfl, hrows⟩ := he
    obtain ⟨vs, hvs1, _⟩ := id hrows
    obtain ⟨Av, cv, rfl⟩ := own_slice hvs1
    have htb := openF_lt ho
    have hT : True ∧ (w1.cell? ⟨lv, 0, none⟩ = some (.pointer (some ⟨lb, 0, none⟩)) ∧ w1.cell? ⟨lb, 1, none⟩ = some (.int .u64 (turn : Int)) ∧ w1.cell? ⟨lb, 3, none⟩ = some (.int .i64 (at_ : Int)) ∧ w1.cell? ⟨lb, 2, none⟩ = some (.int .u64 (next : Int))) := ⟨trivial, hcw1.cell clv (by simp), hcw1.cell cl1 (by simp), hcw1.cell cl3 (by simp), hcw1.cell cl2 (by simp)⟩
    refine hK.out _ _ hT ?_
    clear hK K
    try simp only [Act.put, List.setIfInBounds_toArray, List.set_cons_zero, List.set_cons_succ]
    refine dr_take 16 (some 6) (v := ?_) rfl rfl (by kernel_rfl) (by kernel_rfl) (by kernel_rfl) (fun _ _ _ h => h) rfl hT (fun W _ => ?_) ?_
    rotate_left
    · (go_simp; try with_reducible rfl)
    try simp only [Act.put, List.setIfInBounds_toArray, List.set_cons_zero, List.set_cons_succ]
    refine dr_take 17 (some 23) (v := ?_) rfl rfl (by kernel_rfl) (by kernel_rfl) (by kernel_rfl) (fun _ _ _ h => h) rfl hT (fun W _ => ?_) ?_
    rotate_left
    · (go_simp; try with_reducible rfl)
    try simp only [Act.put, List.setIfInBounds_toArray, List.set_cons_zero, List.set_cons_succ]
    refine dr_take 18 (some 24) (v := ?_) rfl rfl (by kernel_rfl) (by kernel_rfl) (by kernel_rfl) (fun _ _ _ h => h) rfl hT (fun W _ => ?_) ?_
    rotate_left
    · (go_simp; try with_reducible rfl)
    try simp only [Act.put, List.setIfInBounds_toArray, List.set_cons_zero, List.set_cons_succ]
    refine dr_take 19 (some 25) (v := ?_) rfl rfl (by kernel_rfl) (by kernel_rfl) (by kernel_rfl) (fun _ _ _ h => h) rfl hT (fun W _ => ?_) ?_
    rotate_left
    · (go_simp; try with_reducible rfl)
    try simp only [Act.put, List.setIfInBounds_toArray, List.set_cons_zero, List.set_cons_succ]
    refine dr_take 20 (some 3) (v := ?_) rfl rfl (by kernel_rfl) (by kernel_rfl) (by kernel_rfl) (fun _ _ _ h => h) rfl hT (fun W _ => ?_) ?_
    rotate_left
    · (go_simp; try with_reducible rfl)
    try simp only [Act.put, List.setIfInBounds_toArray, List.set_cons_zero, List.set_cons_succ]
    refine dr_take 21 (some 4) (v := ?_) rfl rfl (by kernel_rfl) (by kernel_rfl) (by kernel_rfl) (fun _ _ _ h => h) rfl hT (fun W _ => ?_) ?_
    rotate_left
    · (go_simp; try with_reducible rfl)
    try simp only [Act.put, List.setIfInBounds_toArray, List.set_cons_zero, List.set_cons_succ]
    refine dr_take 22 (some 5) (v := ?_) rfl rfl (by kernel_rfl) (by kernel_rfl) (by kernel_rfl) (fun _ _ _ h => h) rfl hT (fun W _ => ?_) ?_
    rotate_left
    · (go_simp; try with_reducible rfl)
    try simp only [Act.put, List.setIfInBounds_toArray, List.set_cons_zero, List.set_cons_succ]
    refine dr_done (by kernel_rfl) ?_
    by_cases hts : t = turn
    · have hk : stepO R n sz turn at_ next = some (rs, bh) := by unfold stepO; rw [ho]; simp only [if_pos hts]
      have heq : ((t : Int) == (turn : Int)) = true := by rw [beq_iff_eq]; omega
      have heq2 : (t == turn) = true := by rw [beq_iff_eq]; exact hts
      have hrp1 := hcw1.at_ hrp (by simp)
      have hbp1 := hcw1.at_ hbp (by simp)
      have frp := free_at hrp1 0
      have crp := cell_at hrp1 0 rfl
      have hs1 : Ch [rp] w1 (w1.setCell ⟨rp, 0, none⟩ (.slice Av rs.length cv)) := (Ch.refl _ _).setCell _ _ (by simp)
      have hrp2 : (w1.setCell ⟨rp, 0, none⟩ (.slice Av rs.length cv)).heap[rp]? = some (.cells #[.slice Av rs.length cv] 77 (0, 0)) := by
        have := heap_setCell_same w1 rp 0 _ 77 (.slice Av rs.length cv) hrp1
        simpa using this
      have hbp2 := hs1.at_ hbp1 (by simpa using hrb.symm)
      have fbp := free_at hbp2 0
      have cbp := cell_at hbp2 0 rfl
      have hs2 : Ch [bp] (w1.setCell ⟨rp, 0, none⟩ (.slice Av rs.length cv)) ((w1.setCell ⟨rp, 0, none⟩ (.slice Av rs.length cv)).setCell ⟨bp, 0, none⟩ (.int .i64 (bh : Int))) := (Ch.refl _ _).setCell _ _ (by simp)
      have hrp3 := hs2.at_ hrp2 (by simpa using hrb)
      have hbp3 : ((w1.setCell ⟨rp, 0, none⟩ (.slice Av rs.length cv)).setCell ⟨bp, 0, none⟩ (.int .i64 (bh : Int))).heap[bp]? = some (.cells #[.int .i64 (bh : Int)] 3 (0, 0)) := by
        have := heap_setCell_same _ bp 0 _ 3 (.int .i64 (bh : Int)) hbp2
        simpa using this
      have hrpl := lt_of_at hrp
      have hbpl := lt_of_at hbp
      have hrows3 := hrows.keep ((hs1.mono (G := [rp, bp]) (by simp)).trans hs2 (by simp)) (by intro y hy; simp at hy; left; show y < w.heap.size; omega)
      have hcc : Ch [rp, bp] w ((w1.setCell ⟨rp, 0, none⟩ (.slice Av rs.length cv)).setCell ⟨bp, 0, none⟩ (.int .i64 (bh : Int))) := ((hcw1.mono (G := [rp, bp]) (by simp)).setCell _ _ (by simp)).setCell _ _ (by simp)
      have HH := Lib.hid (show _ ∧ _ ∧ _ ∧ _ ∧ _ from ⟨hcc, hk, hrp3, hbp3, hrows3⟩)
      clear hk hcc hrp3 hbp3 hrows3 ho HOP hts
      go_wp2_with fail
      refine (wmust_yes _ _).mono ?_
      rintro e w' ⟨rfl, rfl⟩
      go_wp2_with fail
      go_end0
      exact ⟨HH.out.1, .inl ⟨rfl, rs, bh, _, HH.out.2.1, HH.out.2.2.1, HH.out.2.2.2.1, HH.out.2.2.2.2⟩⟩
    · have hk : stepO R n sz turn at_ next = none := by unfold stepO; rw [ho]; simp only [if_neg hts]
      have heq : ((t : Int) == (turn : Int)) = false := by rw [beq_eq_false_iff_ne]; omega
      have heq2 : (t == turn) = false := by rw [beq_eq_false_iff_ne]; exact hts
      have HH := Lib.hid (show _ ∧ _ from ⟨hcw1.mono (G := [rp, bp]) (by simp), hk⟩)
      clear hk ho HOP hts
      go_wp2_with fail
      refine (wmust_no _).mono ?_
      rintro e w' ⟨rfl, rfl⟩
      exact ⟨rfl, HH.out.1, .inr ⟨rfl, HH.out.2⟩⟩
end

end Go.Proofs.YtbkncfedahifkaaGreat

/-
  Package wal: Open, whole.
-/
set_option linter.unusedVariables false
set_option linter.unusedSimpArgs false
namespace Go.Proofs.YtbkncfedahifkaaGreat
open Go.RowKit Go.Maps

theorem wopen_small (b g m n sz : Nat) (X : List Nat) (R : Nat → List UInt8) (w : World) (h : Live w b g m X n sz R) (hs : n < 16) :
    Calls Tryz.prog 47 #[.pointer (some ⟨b, 0, none⟩)] w fun e w' => e = .returned (.tuple #[.pointer none, .slice none 0 0, .int .i64 41]) ∧ w = w' := by
  have hse := live_sectors _ _ _ _ _ _ _ w h
  have hlt : decide ((n : Int) < 16) = true := by simp; omega
  go_enter Tryz.func47, Tryz.ntmps47
  go_wp2_with fail
  refine hse.mono ?_
  rintro e w' ⟨rfl, rfl⟩
  go_wp2_with fail
  go_ret3
  exact ⟨rfl, rfl⟩

/-- The turn that a log begins with. -/
def beginT (R : Nat → List UInt8) (n sz : Nat) : Nat := (stB R n sz 2).getD 0
def atOf (w : World) (lb : Nat) : Nat := match w.cell? ⟨lb, 3, none⟩ with
  | some (.int _ z) => z.toNat
  | _ => 0
/-- What a log that is opened comes to. -/
def WOpened (R : Nat → List UInt8) (n sz : Nat) : List (List UInt8) × Nat × Nat := openAll R n sz (beginT R n sz) (n / 2 + 1) 0 0

set_option maxRecDepth 100000 in
set_option maxHeartbeats 4000000 in
theorem wopen_any (b g m n sz : Nat) (X : List Nat) (R : Nat → List UInt8) (w : World) (h : Live w b g m X n sz R) (hX : ∀ x ∈ X, x < w.heap.size) (hn : 16 ≤ n) (hsz : 128 ≤ sz) :
    Calls Tryz.prog 47 #[.pointer (some ⟨b, 0, none⟩)] w fun e w' => ∃ lb um v, e = .returned (.tuple #[.pointer (some ⟨lb, 0, none⟩), v, .int .i64 0]) ∧ w.heap.size ≤ lb ∧ w.heap.size ≤ um ∧
      LogS w' lb um b g m X n sz R (beginT R n sz) (WOpened R n sz).2.2 (WOpened R n sz).2.1 (WOpened R n sz).1.length ∧ RowsO w' w.heap.size v (WOpened R n sz).1 ∧ Ch [] w w' := by
  have hmm := @run_makeMap Tryz.prog
  have hmf : ∀ (fn : Fn) (first cap : Array Value) (w : World), (Instr.makeFunc fn first cap).run Tryz.prog w = .ok (.func fn first cap) w := fun _ _ _ _ => rfl
  have hbd := h.bds
  have hse := live_sectors _ _ _ _ _ _ _ w h
  have hsi := live_size _ _ _ _ _ _ _ w h
  have hlt : decide ((n : Int) < 16) = false := by simp; omega
  have hlt2 : decide ((sz : Int) < 128) = false := by simp; omega
  go_enter Tryz.func47, Tryz.ntmps47
  go_wp2_with fail
  refine hse.mono ?_
  rintro e w' ⟨rfl, rfl⟩
  go_wp2_with fail
  refine hsi.mono ?_
  rintro e w' ⟨rfl, rfl⟩
  clear hse hsi
  go_wp2_with fail
  have hc0 : Ch [] w (((w.alloc (.map #[] 0)).alloc (.cells #[.pointer (some ⟨b, 0, none⟩), .int .u64 0, .int .u64 0, .int .i64 0, .int .i64 0, .map (some w.heap.size)] 146)).alloc (.cells #[.pointer (some ⟨w.heap.size + 1, 0, none⟩)] 97)) := (((Ch.refl [] w).alloc _).alloc _).alloc _
  have hcm : (((w.alloc (.map #[] 0)).alloc (.cells #[.pointer (some ⟨b, 0, none⟩), .int .u64 0, .int .u64 0, .int .i64 0, .int .i64 0, .map (some w.heap.size)] 146)).alloc (.cells #[.pointer (some ⟨w.heap.size + 1, 0, none⟩)] 97)).heap[w.heap.size]? = some (.map #[] 0) :=
    (((Ch.refl [] (w.alloc (.map #[] 0))).alloc _).alloc _).at_ (heap_alloc_new w _) (by simp)
  have hcl : (((w.alloc (.map #[] 0)).alloc (.cells #[.pointer (some ⟨b, 0, none⟩), .int .u64 0, .int .u64 0, .int .i64 0, .int .i64 0, .map (some w.heap.size)] 146)).alloc (.cells #[.pointer (some ⟨w.heap.size + 1, 0, none⟩)] 97)).heap[w.heap.size + 1]? = some (.cells #[.pointer (some ⟨b, 0, none⟩), .int .u64 0, .int .u64 0, .int .i64 0, .int .i64 0, .map (some w.heap.size)] 146 (0, 0)) := by
    have h1 := heap_alloc_new (w.alloc (.map #[] 0)) (.cells #[.pointer (some ⟨b, 0, none⟩), .int .u64 0, .int .u64 0, .int .i64 0, .int .i64 0, .map (some w.heap.size)] 146)
    have h2 := ((Ch.refl [] _).alloc (.cells #[.pointer (some ⟨w.heap.size + 1, 0, none⟩)] 97)).at_ h1 (by simp)
    rw [show (w.alloc (.map #[] 0)).heap.size = w.heap.size + 1 from by simp] at h2
    exact h2
  have hcv : (((w.alloc (.map #[] 0)).alloc (.cells #[.pointer (some ⟨b, 0, none⟩), .int .u64 0, .int .u64 0, .int .i64 0, .int .i64 0, .map (some w.heap.size)] 146)).alloc (.cells #[.pointer (some ⟨w.heap.size + 1, 0, none⟩)] 97)).heap[w.heap.size + 1 + 1]? = some (.cells #[.pointer (some ⟨w.heap.size + 1, 0, none⟩)] 97 (0, 0)) := by
    have h1 := heap_alloc_new ((w.alloc (.map #[] 0)).alloc (.cells #[.pointer (some ⟨b, 0, none⟩), .int .u64 0, .int .u64 0, .int .i64 0, .int .i64 0, .map (some w.heap.size)] 146)) (.cells #[.pointer (some ⟨w.heap.size + 1, 0, none⟩)] 97)
    simpa using h1
  have hlive := ((h.add (x := w.heap.size) (Nat.le_refl _)).add (x := w.heap.size + 1) (by omega)).nil hc0
  generalize hwe : ((w.alloc (.map #[] 0)).alloc (.cells #[.pointer (some ⟨b, 0, none⟩), .int .u64 0, .int .u64 0, .int .i64 0, .int .i64 0, .map (some w.heap.size)] 146)).alloc (.cells #[.pointer (some ⟨w.heap.size + 1, 0, none⟩)] 97) = w0 at *
  clear hwe hmm
  generalize hue : w.heap.size = um at *
  have HUE := Lib.hid hue
  have hlb1 : um < um + 1 := by omega
  have hlv1 : um + 1 < um + 1 + 1 := by omega
  generalize hve : um + 1 + 1 = lv at *
  generalize hle : um + 1 = lb at *
  clear hue hve hle
  have hL0 : LogS w0 lb um b g m X n sz R 0 0 0 0 := {
    cells := hcl
    map := ⟨#[], 0, hcm, ⟨by simp, MapKept.stamped_empty 0, by simp⟩, Nat.le_refl _, rfl⟩
    live := hlive
    lX := fun hx => by have := hX _ hx; omega
    uX := fun hx => by have := hX _ hx; omega
    n16 := hn, s128 := hsz, turnB := by omega, nextB := by omega, atB := Nat.zero_le _, countB := by omega }
  have hbe := begin_any w0 hL0
  clear hcl hcm hlive
  refine hbe.mono ?_
  rintro e w1 ⟨rfl, hL1, hc1⟩
  clear hbe hL0
  have hcv1 := hc1.at_ hcv (by simp; omega)
  have hcw1 : Ch [] w w1 := hc0.trans hc1 (by have := HUE.out; simp; omega)
  have hs1 := hcw1.size
  have hBT : (stB R n sz 2).getD 0 = beginT R n sz := rfl
  rw [hBT] at hL1
  have hTl : beginT R n sz < 18446744073709551616 := hL1.turnB
  have hopA : WOpened R n sz = openAll R n sz (beginT R n sz) (n / 2 + 1) 0 0 := rfl
  have HOA := Lib.hid hopA
  clear hopA hBT hcv hc1 hc0
  generalize hTe : beginT R n sz = T at *
  have HTE := Lib.hid hTe
  clear hTe
  have hlbl := lt_of_at hL1.cells
  have hlvl := lt_of_at hcv1
  go_wp2_with fail
  go_loopw [7] (fun out wr => ∃ (done : List (List UInt8)) (a nx cnt f : Nat), RowsO wr w1.heap.size out done ∧ LogS wr lb um b g m X n sz R T nx a cnt ∧ wr.heap[lv]? = some (.cells #[.pointer (some ⟨lb, 0, none⟩)] 97 (0, 0)) ∧ Ch [lb] w1 wr ∧
      openAll R n sz T (n / 2 + 1) 0 0 = (done ++ (openAll R n sz T f a nx).1, (openAll R n sz T f a nx).2) ∧ n / 2 < a + f ∧ cnt = done.length ∧ done.length ≤ a * 4096 ∧ nx ≤ a) (fun _ wr => n / 2 - atOf wr lb)
  case atStart => exact ⟨[], 0, 0, 0, n / 2 + 1, RowsO.empty _ _, hL1, hcv1, Ch.refl _ _, by simp, by omega, rfl, by simp, Nat.le_refl _⟩
  case round =>
    have HL1 := Lib.hid hL1
    clear hL1 hcv1
    obtain ⟨done, a, nx, cnt, f, hout, hL, hcv, hch, hall, hfu, hcnt, hdl, hnx⟩ := hrel
    obtain ⟨wA, hwA⟩ : ∃ W, W = wr := ⟨_, rfl⟩
    subst hwA
    have haB := hL.atB
    obtain ⟨f, rfl⟩ : ∃ q, f = q + 1 := ⟨f - 1, by omega⟩
    have hsA := hch.size
    have hat0 : atOf wA lb = a := by
      have hc3 := cell_at hL.cells 3 rfl
      unfold atOf
      rw [hc3]
      simp
    have hcA : Ch [] wA ((wA.alloc (.cells #[.slice none 0 0] 77)).alloc (.cells #[.int .i64 0] 3)) := ((Ch.refl [] wA).alloc _).alloc _
    have hrp := heap_alloc2_old wA (.cells #[.slice none 0 0] 77) (.cells #[.int .i64 0] 3)
    have hbp := heap_alloc2_new wA (.cells #[.slice none 0 0] 77) (.cells #[.int .i64 0] 3)
    have hsz2 : ((wA.alloc (.cells #[.slice none 0 0] 77)).alloc (.cells #[.int .i64 0] 3)).heap.size = wA.heap.size + 2 := by simp
    have HALL := Lib.hid hall
    have HAT0 := Lib.hid hat0
    have HCNT := Lib.hid hcnt
    clear hall hat0 hcnt
    go_wp2_with fail
    generalize hw2 : (wA.alloc (.cells #[.slice none 0 0] 77)).alloc (.cells #[.int .i64 0] 3) = w2 at *
    clear hw2
    have hL2 := hL.nil hcA
    have hcv2 := hcA.at_ hcv (by simp)
    have htry := wtry_any 78 #[.pointer (some ⟨lv, 0, none⟩), .pointer (some ⟨wA.heap.size, 0, none⟩), .pointer (some ⟨wA.heap.size + 1, 0, none⟩)] [wA.heap.size, wA.heap.size + 1]
      (fun w' => ∃ rs bh v, stepO R n sz T a nx = some (rs, bh) ∧ w'.heap[wA.heap.size]? = some (.cells #[v] 77 (0, 0)) ∧ w'.heap[wA.heap.size + 1]? = some (.cells #[.int .i64 (bh : Int)] 3 (0, 0)) ∧ RowsO w' (w2.heap.size + 2) v rs) (fun _ => stepO R n sz T a nx = none) w2
      (fun W => (enters_of Tryz.func78 (by kernel_rfl) rfl) _ W) (by simp; omega)
      (fun v1 v2 ⟨rs, bh, v, q1, q2, q3, q4⟩ hc => ⟨rs, bh, v, q1, hc.at_ q2 (by simp; omega), hc.at_ q3 (by simp; omega), q4.keep hc (by simp)⟩) (fun _ _ h _ => h)
      (fun W hW hWs => (openC_any lv _ _ _ _ W (hL2.nil hW) (by omega) (hW.at_ hcv2 (by simp)) (hW.at_ hrp (by simp)) (hW.at_ hbp (by simp))).mono (by
        rintro e w' ⟨q0, q⟩
        refine ⟨q0, ?_⟩
        rcases q with ⟨e1, rs, bh, v, q1, q2, q3, q4⟩ | ⟨e1, q1⟩
        · exact .inl ⟨e1, rs, bh, v, q1, q2, q3, q4.rebase hWs⟩
        · exact .inr ⟨e1, q1⟩))
    refine htry.mono ?_
    rintro e w3 ⟨hc3, he⟩
    clear htry
    have hcA3 : Ch [] wA w3 := hcA.trans hc3 (by simp)
    have hL3 := hL.nil hcA3
    have hcv3 := hcA3.at_ hcv (by simp)
    have hout3 := hout.nil hcA3
    have clv := cell_at hcv3 0 rfl
    have hch3 := hch.trans hcA3 (by simp)
    rcases he with ⟨rfl, rs, bh, v, hst, hrp3, hbp3, hrows⟩ | ⟨rfl, hst⟩
    · obtain ⟨vs', hvs', hvr'⟩ := id hrows
      obtain ⟨Ar, cr, rfl⟩ := own_slice hvs'
      obtain ⟨vs, hvs, hvr⟩ := id hout3
      have hsm := stepO_some hst hbd.2.2.2 hsz hbd.2.1
      have hvl : vs.length = done.length := by have := hvs.1; simpa using this
      have hnext : openAll R n sz T (n / 2 + 1) 0 0 = ((done ++ rs) ++ (openAll R n sz T f bh (nx + 1)).1, (openAll R n sz T f bh (nx + 1)).2) := by rw [HALL.out]; simp [openAll, hst]
      have HNEXT := Lib.hid hnext
      clear hst hnext
      obtain ⟨hab, hbn, hrl⟩ := hsm
      have hdr : done.length + rs.length ≤ bh * 4096 := by
        have : (bh - a) * 4096 = bh * 4096 - a * 4096 := Nat.sub_mul _ _ _
        have : a * 4096 ≤ bh * 4096 := Nat.mul_le_mul_right _ (by omega)
        omega
      have hdr2 : done.length + rs.length ≤ 2048 * 4096 := by
        have : bh * 4096 ≤ 2048 * 4096 := Nat.mul_le_mul_right _ (by omega)
        omega
      have hs3 := hch3.size
      have crp := cell_at hrp3 0 rfl
      have hrdr : Rd 1 w3 Ar rs.length cr vs' := own_rd hvs'
      have hone : ∀ u ∈ vs', u.oneCell' = true := by
        intro u hu
        obtain ⟨i, hi, rfl⟩ := List.mem_iff_getElem.1 hu
        have hil : i < rs.length := by have := hvs'.1; simp at this; omega
        obtain ⟨u2, q1, A9, n9, c9, e9, _⟩ := hvr' i hil
        rw [List.getElem?_eq_getElem hi] at q1
        injection q1 with q1
        rw [q1, e9]
        rfl
      have hvr2 : ∀ u0 : Value, (∀ k, u0.ownBlock = some k → k < w2.heap.size + 2) → ∀ (i : Nat) (h : i < rs.length), ∃ u, vs'[i]? = some u ∧ RowO w3 w1.heap.size u0 u rs[i] := by
        intro u0 hu0 i hi
        obtain ⟨u2, q1, A9, n9, c9, e9, q2, q3⟩ := hvr' i hi
        refine ⟨u2, q1, A9, n9, c9, e9, q2, fun ad had => ⟨by have := (q3 ad had).1; omega, (q3 ad had).2.1, fun e => ?_⟩⟩
        have h1 := hu0 _ e
        have h2 := (q3 ad had).1
        omega
      obtain ⟨Ao, co, rfl⟩ := own_slice hvs
      have hob : ∀ k, (Value.slice Ao done.length co).ownBlock = some k → k < w2.heap.size + 2 := by
        obtain ⟨vs0, hv0, _⟩ := id hout
        intro k hk
        have := own_lt hv0 k hk
        omega
      have hob0 : ∀ k, (Value.slice Ao done.length co).ownBlock = some k → k < wA.heap.size := by
        obtain ⟨vs0, hv0, _⟩ := id hout
        intro k hk
        exact own_lt hv0 k hk
      have HOB := Lib.hid hob0
      have hvr3 := hvr2 _ hob
      have HVR := Lib.hid hvr
      have HVR3 := Lib.hid hvr3
      have HVL := Lib.hid hvl
      have HC3 := Lib.hid hbp3
      have cbp := cell_at hbp3 0 rfl
      clear hob0 hob hvr hvr2 hvr3 hvr' hvs' hvl hrows hout hout3 hrp hbp hbp3 hrp3
      have hobA : ∀ k, (Value.slice Ao done.length co).ownBlock = some k → w1.heap.size ≤ k ∧ k < wA.heap.size := fun k hk => ⟨own_ge hvs k hk, HOB.out k hk⟩
      have hnot : ∀ y, y < w1.heap.size ∨ wA.heap.size ≤ y → y ∉ (Value.slice Ao done.length co).ownBlock.toList := by
        intro y hy hm
        have := hobA y (by simpa using hm)
        omega
      have n1 := hnot lv (.inl hlvl)
      have n2 := hnot lb (.inl hlbl)
      have n3 := hnot wA.heap.size (.inr (Nat.le_refl _))
      have n4 := hnot (wA.heap.size + 1) (.inr (by omega))
      have HOBA := Lib.hid hobA
      have N1 := Lib.hid n1
      have N2 := Lib.hid n2
      have N3 := Lib.hid n3
      have N4 := Lib.hid n4
      have hne1 : ¬ lb = lv := by omega
      have hne2 : ¬ lv = lb := by omega
      have hne3 : ¬ lb = wA.heap.size := by omega
      have hne4 : ¬ lb = wA.heap.size + 1 := by omega
      have hne5 : ¬ wA.heap.size = lb := by omega
      have hne6 : ¬ wA.heap.size + 1 = lb := by omega
      have hnxb : nx ≤ 2048 := by omega
      clear hobA hnot n1 n2 n3 n4
      go_wp2_with (first
        | (at_builtin; refine app_rd rfl (.tmp 47) (.tmp 48) 77 45 (.slice none 0 0) 1 24 (by decide) rfl Tryz.underlying77 Tryz.info45 rfl _ _ vs vs' Ar rs.length cr rfl rfl hone hvs hrdr hs3 (by omega) (by unfold maxLen; omega) ?_; intro v6 w6 h6 hgr6 hat6; have hcg : Ch (Value.slice Ao done.length co).ownBlock.toList w3 w6 := (Ch.refl _ _).grown hgr6 (fun y hy => .inl (Option.mem_toList.2 hy)); have clv6 := hcg.cell clv N1.out; have crp6 := hcg.cell crp N3.out; have cbp6 := hcg.cell cbp N4.out; have hcl6 := hcg.at_ hL3.cells N2.out; have cl3 := cell_at hcl6 3 rfl; have cl2 := cell_at hcl6 2 rfl; have fl3 := free_at hcl6 3; have fl2 := free_at hcl6 2)
        | fail)
      have hrows6 := RowsO.app HVR.out HVL.out HVR3.out h6 hgr6 hat6 hs3
      have hch6 : Ch [lb] w1 w6 := hch3.trans hcg (by
        intro y hy
        have := HOBA.out y (Option.mem_toList.1 hy)
        right
        omega)
      have hcnb : cnt ≤ 8388608 := by have := HCNT.out; omega
      have hwc : IntKind.i64.wrap ((cnt : Int) + (rs.length : Int)) = (cnt : Int) + (rs.length : Int) := by rw [IntKind.wrap_i64]; omega
      have b1 := heap_setCell_same w6 lb 3 _ 146 (.int .i64 (bh : Int)) hcl6
      have b2 := heap_setCell_same _ lb 2 _ 146 (.int .u64 ((nx : Int) + 1)) b1
      have hc67 : Ch [lb] w6 ((w6.setCell ⟨lb, 3, none⟩ (.int .i64 (bh : Int))).setCell ⟨lb, 2, none⟩ (.int .u64 ((nx : Int) + 1))) := ((Ch.refl _ _).setCell _ _ (by simp)).setCell _ _ (by simp)
      generalize hw7 : (w6.setCell ⟨lb, 3, none⟩ (.int .i64 (bh : Int))).setCell ⟨lb, 2, none⟩ (.int .u64 ((nx : Int) + 1)) = w7 at *
      clear hw7 b1
      have hcl7 : w7.heap[lb]? = some (.cells #[.pointer (some ⟨b, 0, none⟩), .int .u64 (T : Int), .int .u64 ((nx : Int) + 1), .int .i64 (bh : Int), .int .i64 (cnt : Int), .map (some um)] 146 (0, 0)) := by simpa using b2
      have clv7 := hc67.cell clv6 (by simpa using hne2)
      have crp7 := hc67.cell crp6 (by simpa using hne5)
      have cl4 := cell_at hcl7 4 rfl
      have fl4 := free_at hcl7 4
      have b3 := heap_setCell_same w7 lb 4 _ 146 (.int .i64 ((cnt : Int) + (rs.length : Int))) hcl7
      have hs9 : Ch [lb] w7 (w7.setCell ⟨lb, 4, none⟩ (.int .i64 ((cnt : Int) + (rs.length : Int)))).drew := ((Ch.refl _ _).setCell _ _ (by simp)).drew
      have hcl9 : (w7.setCell ⟨lb, 4, none⟩ (.int .i64 ((cnt : Int) + (rs.length : Int)))).drew.heap[lb]? = some (.cells #[.pointer (some ⟨b, 0, none⟩), .int .u64 (T : Int), .int .u64 ((nx + 1 : Nat) : Int), .int .i64 (bh : Int), .int .i64 ((cnt + rs.length : Nat) : Int), .map (some um)] 146 (0, 0)) := by
        rw [Int.natCast_add, Int.natCast_add]
        show (w7.setCell ⟨lb, 4, none⟩ (.int .i64 ((cnt : Int) + (rs.length : Int)))).heap[lb]? = _
        simpa using b3
      have hch9 : Ch [lb] w1 (w7.setCell ⟨lb, 4, none⟩ (.int .i64 ((cnt : Int) + (rs.length : Int)))).drew := (hch6.trans hc67 (fun y hy => .inl hy)).trans hs9 (fun y hy => .inl hy)
      have hL9 := HL1.out.re hch9 (turn' := T) (next' := nx + 1) (at' := bh) (count' := cnt + rs.length) hcl9 hTl (by omega) hbn (by omega)
      have hrows9 := hrows6.keep (hc67.trans hs9 (fun y hy => .inl hy)) (by intro y hy; simp at hy; left; omega)
      have hcv9 : (w7.setCell ⟨lb, 4, none⟩ (.int .i64 ((cnt : Int) + (rs.length : Int)))).drew.heap[lv]? = some (.cells #[.pointer (some ⟨lb, 0, none⟩)] 97 (0, 0)) := hs9.at_ (hc67.at_ (hcg.at_ hcv3 N1.out) (by simpa using hne2)) (by simpa using hne2)
      have hat9 : atOf (w7.setCell ⟨lb, 4, none⟩ (.int .i64 ((cnt : Int) + (rs.length : Int)))).drew lb = bh := by
        have hc9 := cell_at hcl9 3 rfl
        unfold atOf
        rw [hc9]
        simp
      have HFIN := Lib.hid (show _ ∧ _ ∧ _ ∧ _ ∧ _ from ⟨hrows9, hL9, hcv9, hch9, hat9⟩)
      clear b2 b3 hcl9 hch9 hL9 hrows9 hcv9 hat9 hrows6 h6 hgr6 hat6 hcl7 hch6 hcl6 cl3 cl2 fl3 fl2 clv6 crp6 cbp6
      refine dr_begin (by kernel_rfl) ?_
      refine dr_more (fun W => W.cell? ⟨lv, 0, none⟩ = some (.pointer (some ⟨lb, 0, none⟩)) ∧ W.cell? ⟨wA.heap.size, 0, none⟩ = some (.slice Ar rs.length cr)) ?_
      have hT : True ∧ (w7.drew.cell? ⟨lv, 0, none⟩ = some (.pointer (some ⟨lb, 0, none⟩)) ∧ w7.drew.cell? ⟨wA.heap.size, 0, none⟩ = some (.slice Ar rs.length cr)) := ⟨trivial, clv7, crp7⟩
      refine dr_take 0 (some 61) (v := ?_) rfl rfl (by kernel_rfl) (by kernel_rfl) (by kernel_rfl) (fun _ _ _ h => h) rfl hT (fun W hW => ?_) ?_
      rotate_left
      · (have h1 := hW.2.1; go_simp; try with_reducible rfl)
      try simp only [Act.put, List.setIfInBounds_toArray, List.set_cons_zero, List.set_cons_succ]
      refine dr_take 1 (some 62) (v := ?_) rfl rfl (by kernel_rfl) (by kernel_rfl) (by kernel_rfl) (fun _ _ _ h => h) rfl hT (fun W _ => ?_) ?_
      rotate_left
      · (go_simp; try with_reducible rfl)
      try simp only [Act.put, List.setIfInBounds_toArray, List.set_cons_zero, List.set_cons_succ]
      refine dr_take 2 (some 63) (v := ?_) rfl rfl (by kernel_rfl) (by kernel_rfl) (by kernel_rfl) (fun _ _ _ h => h) rfl hT (fun W _ => ?_) ?_
      rotate_left
      · (go_simp; try with_reducible rfl)
      try simp only [Act.put, List.setIfInBounds_toArray, List.set_cons_zero, List.set_cons_succ]
      refine dr_take 4 (some 65) (v := ?_) rfl rfl (by kernel_rfl) (by kernel_rfl) (by kernel_rfl) (fun _ _ _ h => h) rfl hT (fun W hW => ?_) ?_
      rotate_left
      · (have h1 := hW.2.2; go_simp; try with_reducible rfl)
      try simp only [Act.put, List.setIfInBounds_toArray, List.set_cons_zero, List.set_cons_succ]
      refine dr_take 5 (some 66) (v := ?_) rfl rfl (by kernel_rfl) (by kernel_rfl) (by kernel_rfl) (fun _ _ _ h => h) rfl hT (fun W _ => ?_) ?_
      rotate_left
      · (go_simp; try with_reducible rfl)
      try simp only [Act.put, List.setIfInBounds_toArray, List.set_cons_zero, List.set_cons_succ]
      refine dr_step 3 rfl (by kernel_rfl) rfl (fun K hK => ?_)
      go_simp
      refine hK.out _ _ hT ?_
      clear hK K
      try simp only [Act.put, List.setIfInBounds_toArray, List.set_cons_zero, List.set_cons_succ]
      refine dr_take 6 (some 67) (v := ?_) rfl rfl (by kernel_rfl) (by kernel_rfl) (by kernel_rfl) (fun _ _ _ h => h) rfl hT (fun W _ => ?_) ?_
      rotate_left
      · (go_simp; try with_reducible rfl)
      try simp only [Act.put, List.setIfInBounds_toArray, List.set_cons_zero, List.set_cons_succ]
      refine dr_take 7 (some 68) (v := ?_) rfl rfl (by kernel_rfl) (by kernel_rfl) (by kernel_rfl) (fun _ _ _ h => h) rfl hT (fun W _ => ?_) ?_
      rotate_left
      · (go_simp; try with_reducible rfl)
      try simp only [Act.put, List.setIfInBounds_toArray, List.set_cons_zero, List.set_cons_succ]
      refine dr_take 8 (some 69) (v := ?_) rfl rfl (by kernel_rfl) (by kernel_rfl) (by kernel_rfl) (fun _ _ _ h => h) rfl hT (fun W _ => ?_) ?_
      rotate_left
      · (go_simp; try with_reducible rfl)
      try simp only [Act.put, List.setIfInBounds_toArray, List.set_cons_zero, List.set_cons_succ]
      refine dr_step 9 rfl (by kernel_rfl) rfl (fun K hK => ?_)
      go_simp
      have hT : True ∧ ((w7.setCell ⟨lb, 4, none⟩ (.int .i64 ((cnt : Int) + (rs.length : Int)))).drew.cell? ⟨lv, 0, none⟩ = some (.pointer (some ⟨lb, 0, none⟩)) ∧ (w7.setCell ⟨lb, 4, none⟩ (.int .i64 ((cnt : Int) + (rs.length : Int)))).drew.cell? ⟨wA.heap.size, 0, none⟩ = some (.slice Ar rs.length cr)) := ⟨trivial, hs9.cell clv7 (by simpa using hne2), hs9.cell crp7 (by simpa using hne5)⟩
      refine hK.out _ _ hT ?_
      clear hK K
      try simp only [Act.put, List.setIfInBounds_toArray, List.set_cons_zero, List.set_cons_succ]
      refine dr_done (by kernel_rfl) ?_
      go_wp2_with fail
      refine ⟨⟨done ++ rs, bh, nx + 1, cnt + rs.length, f, HFIN.out.1, HFIN.out.2.1, HFIN.out.2.2.1, HFIN.out.2.2.2.1, HNEXT.out, by omega, by have := HCNT.out; rw [List.length_append]; omega, by rw [List.length_append]; omega, by omega⟩, ?_⟩
      rw [HFIN.out.2.2.2.2, HAT0.out]; omega
    · have hfin : openAll R n sz T (n / 2 + 1) 0 0 = (done, a, nx) := by rw [HALL.out]; simp [openAll, hst]
      have HFIN := Lib.hid hfin
      clear hst hfin
      go_wp2_with fail
      go_ret3
      refine ⟨lb, um, _, rfl, ?_, ?_, ?_, ?_, hcw1.trans hch3 (by have := HUE.out; simp; omega)⟩
      · have := HUE.out; omega
      · have := HUE.out; omega
      · rw [HOA.out, HTE.out, HFIN.out, ← HCNT.out]
        exact hL3
      · rw [HOA.out, HFIN.out]
        exact hout3.rebase hs1

end Go.Proofs.YtbkncfedahifkaaGreat

/-
  Package wal, the plain law: what a log's sectors hold, opened anew, is what was laid.
-/
set_option linter.unusedVariables false
set_option linter.unusedSimpArgs false
namespace Go.Proofs.YtbkncfedahifkaaGreat
open Go.RowKit Go.Maps

/-- A row that is long enough, cut out of sectors. -/
theorem padB (B : List UInt8) (S i M : Nat) (hM : i * S + S ≤ M) : (B.drop (i * S)).take S ++ List.replicate (S - ((B.drop (i * S)).take S).length) 0 = ((B ++ List.replicate M 0).drop (i * S)).take S := by
  rw [List.drop_append, List.take_append, List.length_take, List.length_drop, List.drop_replicate, List.take_replicate]
  congr 2
  omega
theorem secB_take (S turn next : Nat) (B : List UInt8) (i : Nat) : (secB S turn next B i).take S = (B.drop (i * S)).take S ++ List.replicate (S - ((B.drop (i * S)).take S).length) 0 := by
  unfold secB
  dsimp only
  rw [List.append_assoc, ← List.append_assoc, List.take_append_of_le_length (by rw [List.length_append, List.length_replicate, List.length_take]; omega), List.take_of_length_le (by rw [List.length_append, List.length_replicate, List.length_take]; omega)]
theorem secB_drop (S turn next : Nat) (B : List UInt8) (i : Nat) : (secB S turn next B i).drop S = if i = 0 then beN 8 turn ++ beN 8 (next + 1) else List.replicate 16 0 := by
  unfold secB
  dsimp only
  rw [List.drop_append_of_le_length (by rw [List.length_append, List.length_replicate, List.length_take]; omega), List.drop_of_length_le (by rw [List.length_append, List.length_replicate, List.length_take]; omega), List.nil_append]
/-- All bytes of the sectors of a frame. -/
theorem secsB_lay (R : Nat → List UInt8) (S turn next fr : Nat) (B : List UInt8) : ∀ k M, k * S ≤ M → (∀ i, i < k → R (fr + i) = secB S turn next B i) → secsB R S fr k = (B ++ List.replicate M 0).take (k * S)
  | 0, M, hM, h => by simp [secsB]
  | k + 1, M, hM, h => by
    rw [Nat.add_mul, Nat.one_mul] at hM
    rw [secsB_succ, secsB_lay R S turn next fr B k M (by omega) (fun i hi => h i (by omega)), h k (by omega), secB_take, padB B S k M hM, Nat.add_mul, Nat.one_mul, List.take_add]
theorem secB_part (S turn next : Nat) (B : List UInt8) (j m : Nat) (h1 : j + m ≤ S) (h2 : j + m ≤ B.length) : (((secB S turn next B 0).take S).drop j).take m = (B.drop j).take m := by
  rw [secB_take, padB B S 0 S (by omega), Nat.zero_mul, List.drop_zero, List.drop_take, List.take_take, Nat.min_eq_left (by omega), List.drop_append_of_le_length (by omega), List.take_append_of_le_length (by rw [List.length_drop]; omega)]
/-- Records out of their own bytes. -/
theorem recsP_body : ∀ (rs : List (List UInt8)) (f : Nat), rs.length < f → (∀ r ∈ rs, r.length < 4294967296) → recsP f (bodyB rs) = some rs
  | [], 0, h, _ => by simp at h
  | [], f + 1, h, _ => by simp [recsP, bodyB]
  | r :: rs, 0, h, _ => by simp at h
  | r :: rs, f + 1, h, hl => by
    have hr := hl r (by simp)
    have e : bodyB (r :: rs) = beN 4 r.length ++ (r ++ bodyB rs) := by simp [bodyB]
    have h4 : (beN 4 r.length).length = 4 := beN_length _ _
    have ht : (bodyB (r :: rs)).take 4 = beN 4 r.length := by rw [e, List.take_append_of_le_length (by omega), List.take_of_length_le (by omega)]
    have hd : (bodyB (r :: rs)).drop 4 = r ++ bodyB rs := by rw [e, List.drop_append_of_le_length (by omega), List.drop_of_length_le (by omega), List.nil_append]
    have hk : deN (beN 4 r.length) = r.length := deN_beN 4 _ (by simpa using hr)
    have hlen : (bodyB (r :: rs)).length = 4 + r.length + (bodyB rs).length := bodyB_cons r rs
    unfold recsP
    rw [if_neg (by intro e2; rw [e2] at hlen; simp at hlen; omega), if_neg (by omega), ht, hk, if_pos (by omega), ← List.drop_drop, hd, List.drop_append_of_le_length (Nat.le_refl _), List.drop_length, List.nil_append,
      recsP_body rs f (by simpa using h) (fun x hx => hl x (by simp [hx])), Option.map_some, List.take_append_of_le_length (Nat.le_refl _), List.take_length]
theorem secsN_mul (S k : Nat) (hS : 0 < S) : k ≤ secsN S k * S := by
  unfold secsN
  have h := Nat.div_add_mod k S
  rw [Nat.add_mul, Nat.mul_comm (k / S) S]
  by_cases h0 : k % S = 0
  · rw [h0]; omega
  · rw [Nat.min_eq_right (by omega), Nat.one_mul]
    have := Nat.mod_lt k hS
    omega
theorem bodyB_ge : ∀ rs : List (List UInt8), 4 * rs.length ≤ (bodyB rs).length
  | [] => by simp
  | r :: rs => by have := bodyB_ge rs; rw [bodyB_cons, List.length_cons]; omega
/-- A frame that was laid, is read. -/
theorem openF_lay (R : Nat → List UInt8) (n sz side a turn next : Nat) (rs : List (List UInt8)) (hs : 128 ≤ sz) (hs2 : sz ≤ 4096) (hn : n ≤ 4096) (ht : turn < 18446744073709551616) (hx : next + 1 < 18446744073709551616) (hl : ∀ r ∈ rs, r.length < 4294967296)
    (hfit : a + secsN (sz - 16) (32 + (bodyB rs).length) ≤ n / 2) (h : ∀ i, i < secsN (sz - 16) (32 + (bodyB rs).length) → R (side * (n / 2) + a + i) = secB (sz - 16) turn next (frameB turn next rs) i) :
    openF R n sz side a next = some (turn, rs, a + secsN (sz - 16) (32 + (bodyB rs).length)) := by
  generalize hS : sz - 16 = S at *
  generalize hm : (bodyB rs).length = m at *
  have hS1 : 112 ≤ S := by omega
  have hk1 := secsN_ge S (32 + m) (by omega) (by omega)
  generalize hk : secsN S (32 + m) = k at *
  have hB : (frameB turn next rs).length = 32 + m := by rw [frameB_length, hm]
  have h0 : R (side * (n / 2) + a) = secB S turn next (frameB turn next rs) 0 := h 0 (by omega)
  have l1 : (beN 8 turn).length = 8 := beN_length _ _
  have l2 : (beN 8 next).length = 8 := beN_length _ _
  have l3 : (beN 8 m).length = 8 := beN_length _ _
  have ls : signB.length = 8 := rfl
  have eB : frameB turn next rs = signB ++ (beN 8 turn ++ (beN 8 next ++ (beN 8 m ++ bodyB rs))) := by simp [frameB, hm]
  have hkm : k ≤ 2048 := by omega
  have hms : 32 + m ≤ 2048 * 4096 := by
    have h3 : k * S ≤ 2048 * 4096 := Nat.mul_le_mul hkm (by omega)
    omega
  have p1 : ((frameB turn next rs).drop 0).take 8 = signB := by rw [eB]; simp [signB]
  have d8 : (frameB turn next rs).drop 8 = beN 8 turn ++ (beN 8 next ++ (beN 8 m ++ bodyB rs)) := by rw [eB]; exact List.drop_left' ls
  have d16 : (frameB turn next rs).drop 16 = beN 8 next ++ (beN 8 m ++ bodyB rs) := by rw [show (16 : Nat) = 8 + 8 from rfl, ← List.drop_drop, d8]; exact List.drop_left' l1
  have d24 : (frameB turn next rs).drop 24 = beN 8 m ++ bodyB rs := by rw [show (24 : Nat) = 16 + 8 from rfl, ← List.drop_drop, d16]; exact List.drop_left' l2
  have d32 : (frameB turn next rs).drop 32 = bodyB rs := by rw [show (32 : Nat) = 24 + 8 from rfl, ← List.drop_drop, d24]; exact List.drop_left' l3
  have p2 : ((frameB turn next rs).drop 8).take 8 = beN 8 turn := by rw [d8]; exact List.take_left' l1
  have p3 : ((frameB turn next rs).drop 16).take 8 = beN 8 next := by rw [d16]; exact List.take_left' l2
  have p4 : ((frameB turn next rs).drop 24).take 8 = beN 8 m := by rw [d24]; exact List.take_left' l3
  have q1 := secB_part S turn next (frameB turn next rs) 0 8 (by omega) (by omega)
  have q2 := secB_part S turn next (frameB turn next rs) 8 8 (by omega) (by omega)
  have q3 := secB_part S turn next (frameB turn next rs) 16 8 (by omega) (by omega)
  have q4 := secB_part S turn next (frameB turn next rs) 24 8 (by omega) (by omega)
  rw [p1, List.drop_zero] at q1
  rw [p2] at q2
  rw [p3] at q3
  rw [p4] at q4
  have e1 : deN (beN 8 turn) = turn := deN_beN 8 _ (by simpa using ht)
  have e2 : deN (beN 8 next) = next := deN_beN 8 _ (by simp; omega)
  have e3 : deN (beN 8 m) = m := deN_beN 8 _ (by simp; omega)
  have e4 : deN (beN 8 (next + 1)) = next + 1 := deN_beN 8 _ (by simpa using hx)
  have hend : (secB S turn next (frameB turn next rs) 0).drop S = beN 8 turn ++ beN 8 (next + 1) := by rw [secB_drop, if_pos rfl]
  have t1 : (beN 8 turn ++ beN 8 (next + 1)).take 8 = beN 8 turn := List.take_left' l1
  have t2 : (beN 8 turn ++ beN 8 (next + 1)).drop 8 = beN 8 (next + 1) := List.drop_left' l1
  have hmost : m + 32 ≤ (n / 2 - a) * S := by
    have h3 : k * S ≤ (n / 2 - a) * S := Nat.mul_le_mul_right _ (by omega)
    omega
  have hall : ((secsB R S (side * (n / 2) + a) k).drop 32).take m = bodyB rs := by
    rw [secsB_lay R S turn next (side * (n / 2) + a) (frameB turn next rs) k (k * S) (Nat.le_refl _) h, List.drop_take, List.take_take, Nat.min_eq_left (by omega), List.drop_append_of_le_length (by omega), d32, List.take_append_of_le_length (by omega), List.take_of_length_le (by omega)]
  unfold openF
  simp only [hS, h0, q1, q2, q3, q4, e1, e2, e3, hend, t1, t2, e4, Nat.add_comm 32 m ▸ hk]
  rw [if_pos ⟨by omega, trivial, trivial, trivial, trivial, hmost⟩]
  have hk' : secsN S (32 + m) = k := hk
  rw [hk', hall, recsP_body rs (m + 1) (by have := bodyB_ge rs; omega) hl]
  rfl

end Go.Proofs.YtbkncfedahifkaaGreat

/-
  Package wal, the plain law: what a log keeps; that it is opened as it is; what commits and resets do to it.
-/
set_option linter.unusedVariables false
set_option linter.unusedSimpArgs false
namespace Go.Proofs.YtbkncfedahifkaaGreat
open Go.RowKit Go.Maps

/-- Small records. -/
def SmallR (f : List (List UInt8)) : Prop := ∀ r ∈ f, r.length < 4294967296
/-- How many sectors a frame of records takes. -/
def lenF (sz : Nat) (f : List (List UInt8)) : Nat := secsN (sz - 16) (32 + (bodyB f).length)
/-- Frames, one behind another. -/
def Frames (R : Nat → List UInt8) (n sz turn : Nat) : Nat → Nat → List (List (List UInt8)) → Nat → Prop
  | a, _, [], a' => a = a'
  | a, nx, f :: fs, a' => (∀ i, i < lenF sz f → R (turn % 2 * (n / 2) + a + i) = secB (sz - 16) turn nx (frameB turn nx f) i) ∧ a + lenF sz f ≤ n / 2 ∧ SmallR f ∧ Frames R n sz turn (a + lenF sz f) (nx + 1) fs a'
/-- The turn, and the number, at a sector's end. -/
def tailT (R : Nat → List UInt8) (sz s : Nat) : Nat := deN (((R s).drop (sz - 16)).take 8)
def tailN (R : Nat → List UInt8) (sz s : Nat) : Nat := deN (((R s).drop (sz - 16)).drop 8)
structure LogI (R : Nat → List UInt8) (n sz turn next a : Nat) (rs : List (List UInt8)) : Prop where
  fs : ∃ fs : List (List (List UInt8)), fs.flatten = rs ∧ fs.length = next ∧ Frames R n sz turn 0 0 fs a
  tails : ∀ s, s < n → tailN R sz s = 0 ∨ tailT R sz s < turn ∨ (tailT R sz s = turn ∧ turn % 2 * (n / 2) ≤ s ∧ s < turn % 2 * (n / 2) + a)
  zero : next = 0 → turn = 0 ∧ ∀ s, s < n → tailN R sz s = 0
theorem lenF_pos {sz : Nat} (f : List (List UInt8)) (hs : 128 ≤ sz) : 1 ≤ lenF sz f := (secsN_ge (sz - 16) (32 + (bodyB f).length) (by omega) (by omega)).1
theorem Frames.le {R : Nat → List UInt8} {n sz turn : Nat} (hs : 128 ≤ sz) : ∀ {fs : List (List (List UInt8))} {a nx a' : Nat}, Frames R n sz turn a nx fs a' → a ≤ n / 2 → a + fs.length ≤ a' ∧ a' ≤ n / 2
  | [], a, nx, a', h, h0 => by simp only [Frames] at h; subst h; simp; omega
  | f :: fs, a, nx, a', h, h0 => by
    have h1 := Frames.le hs h.2.2.2 h.2.1
    have := lenF_pos f hs
    rw [List.length_cons]
    omega
theorem Frames.congr {R R' : Nat → List UInt8} {n sz turn : Nat} (hs : 128 ≤ sz) : ∀ {fs : List (List (List UInt8))} {a nx a' : Nat}, Frames R n sz turn a nx fs a' → a ≤ n / 2 → (∀ s, turn % 2 * (n / 2) + a ≤ s → s < turn % 2 * (n / 2) + a' → R' s = R s) → Frames R' n sz turn a nx fs a'
  | [], a, nx, a', h, h0, hR => h
  | f :: fs, a, nx, a', h, h0, hR => by
    have h1 := Frames.le hs h.2.2.2 h.2.1
    exact ⟨fun i hi => by rw [hR _ (by omega) (by omega)]; exact h.1 i hi, h.2.1, h.2.2.1, Frames.congr hs h.2.2.2 h.2.1 (fun s q1 q2 => hR s (by omega) q2)⟩
theorem Frames.snoc {R : Nat → List UInt8} {n sz turn : Nat} {g : List (List UInt8)} : ∀ {fs : List (List (List UInt8))} {a nx a' : Nat}, Frames R n sz turn a nx fs a' →
    (∀ i, i < lenF sz g → R (turn % 2 * (n / 2) + a' + i) = secB (sz - 16) turn (nx + fs.length) (frameB turn (nx + fs.length) g) i) → a' + lenF sz g ≤ n / 2 → SmallR g → Frames R n sz turn a nx (fs ++ [g]) (a' + lenF sz g)
  | [], a, nx, a', h, h1, h2, h3 => by
    simp only [Frames] at h
    subst h
    exact ⟨h1, h2, h3, rfl⟩
  | f :: fs, a, nx, a', h, h1, h2, h3 => ⟨h.1, h.2.1, h.2.2.1, Frames.snoc h.2.2.2 (by rw [List.length_cons] at h1; rw [Nat.add_assoc nx 1, Nat.add_comm 1]; exact h1) h2 h3⟩
section
variable {R : Nat → List UInt8} {n sz turn next a : Nat} {rs : List (List UInt8)}
theorem openF_tail {side a nx t bh : Nat} {rs : List (List UInt8)} (h : openF R n sz side a nx = some (t, rs, bh)) : a < n / 2 ∧ tailT R sz (side * (n / 2) + a) = t ∧ tailN R sz (side * (n / 2) + a) = nx + 1 := by
  unfold openF at h
  dsimp only at h
  split at h
  · rename_i hc
    obtain ⟨q, h1, h2⟩ := Option.map_eq_some_iff.1 h
    simp only [Prod.mk.injEq] at h2
    refine ⟨hc.1, ?_, hc.2.2.2.2.1⟩
    unfold tailT
    rw [hc.2.2.2.1]
    exact h2.1
  · cases h
theorem openAll_frames (hs : 128 ≤ sz) (hs2 : sz ≤ 4096) (hn : n ≤ 4096) (ht : turn < 18446744073709551616) : ∀ (fs : List (List (List UInt8))) (a nx a' f : Nat), Frames R n sz turn a nx fs a' → fs.length < f → nx + fs.length + 1 < 18446744073709551616 → stepO R n sz turn a' (nx + fs.length) = none →
    openAll R n sz turn f a nx = (fs.flatten, a', nx + fs.length)
  | [], a, nx, a', 0, h, h1, h2, h3 => by simp at h1
  | [], a, nx, a', f + 1, h, h1, h2, h3 => by
    simp only [Frames] at h
    subst h
    simp only [List.length_nil, Nat.add_zero] at h3
    simp [openAll, h3]
  | g :: fs, a, nx, a', 0, h, h1, h2, h3 => by simp at h1
  | g :: fs, a, nx, a', f + 1, h, h1, h2, h3 => by
    rw [List.length_cons] at h1 h2 h3
    have q := openF_lay R n sz (turn % 2) a turn nx g hs hs2 hn ht (by omega) h.2.2.1 h.2.1 h.1
    have q2 : stepO R n sz turn a nx = some (g, a + lenF sz g) := by
      unfold stepO
      rw [q]
      simp [lenF]
    have h4 := openAll_frames hs hs2 hn ht fs (a + lenF sz g) (nx + 1) a' f h.2.2.2 (by omega) (by omega) (by rw [Nat.add_assoc nx 1, Nat.add_comm 1]; exact h3)
    unfold openAll
    rw [q2]
    simp only [h4, List.flatten_cons, List.length_cons]
    rw [Nat.add_assoc nx 1, Nat.add_comm 1]
theorem LogI.bds (h : LogI R n sz turn next a rs) (hs : 128 ≤ sz) : next ≤ a ∧ a ≤ n / 2 := by
  obtain ⟨fs, h1, h2, h3⟩ := h.fs
  have := Frames.le hs h3 (by omega)
  omega
theorem LogI.stop (h : LogI R n sz turn next a rs) (hn : n ≤ 4096) : stepO R n sz turn a next = none := by
  unfold stepO
  split
  · rename_i t q bh ho
    have h1 := openF_tail ho
    have hm : turn % 2 * (n / 2) + a < n := by
      have : turn % 2 < 2 := Nat.mod_lt _ (by omega)
      rcases Nat.lt_or_ge (turn % 2) 1 with h5 | h5
      · rw [show turn % 2 = 0 from by omega]; omega
      · rw [show turn % 2 = 1 from by omega]; omega
    have h2 := h.tails _ hm
    rw [if_neg]
    rw [h1.2.2, h1.2.1] at h2
    omega
  · rfl
theorem newer_yes {a b : Nat} (h : a < b) (hb : b < 4611686018427387904) : newer a b = true := by
  unfold newer
  rw [show IntKind.i64.wrap (IntKind.u64.wrap ((b : Int) - (a : Int))) = (b : Int) - (a : Int) from by rw [IntKind.wrap_u64, IntKind.wrap_i64]; omega]
  simp
  omega
theorem newer_no {a b : Nat} (h : b < a) (hb : a < 4611686018427387904) : newer a b = false := by
  unfold newer
  have e : IntKind.u64.wrap ((b : Int) - (a : Int)) = (b : Int) - (a : Int) + 18446744073709551616 := by rw [IntKind.wrap_u64]; omega
  rw [e, show IntKind.i64.wrap ((b : Int) - (a : Int) + 18446744073709551616) = (b : Int) - (a : Int) from by rw [IntKind.wrap_i64]; omega]
  simp
  omega
theorem okSide_tail {side t : Nat} (h : okSide R n sz side = some t) : t % 2 = side ∧ 0 < n / 2 ∧ tailT R sz (side * (n / 2)) = t ∧ tailN R sz (side * (n / 2)) = 1 := by
  unfold okSide at h
  split at h
  · rename_i t' q bh ho
    have h1 := openF_tail ho
    split at h
    · rename_i h2
      injection h with h
      subst h
      exact ⟨h2, h1.1, h1.2.1, h1.2.2⟩
    · cases h
  · cases h
/-- A log is opened as it is. -/
theorem LogI.opened (h : LogI R n sz turn next a rs) (hs : 128 ≤ sz) (hs2 : sz ≤ 4096) (hn0 : 16 ≤ n) (hn : n ≤ 4096) (ht : turn < 4611686018427387904) : beginT R n sz = turn ∧ WOpened R n sz = (rs, a, next) := by
  have hb := h.bds hs
  have hT : beginT R n sz = turn := by
    unfold beginT
    by_cases h0 : next = 0
    · have h1 := h.zero h0
      have e : ∀ side, side < 2 → okSide R n sz side = none := by
        intro side hsd
        rcases hq : okSide R n sz side with _ | t
        · rfl
        · exfalso
          have h2 := okSide_tail hq
          have hm : side * (n / 2) < n := by
            rcases Nat.lt_or_ge side 1 with h5 | h5
            · rw [show side = 0 from by omega]; omega
            · rw [show side = 1 from by omega]; omega
          have h3 := h1.2 _ hm
          omega
      rw [h1.1]
      simp [stB, stepB, e 0 (by omega), e 1 (by omega)]
    · obtain ⟨fs, h1, h2, h3⟩ := h.fs
      rcases fs with _ | ⟨g, fs⟩
      · simp at h2; omega
      have q := openF_lay R n sz (turn % 2) 0 turn 0 g hs hs2 hn (by omega) (by omega) h3.2.2.1 h3.2.1 h3.1
      have hok : okSide R n sz (turn % 2) = some turn := by
        unfold okSide
        rw [q]
        simp
      have hoth : ∀ side t, side < 2 → side ≠ turn % 2 → okSide R n sz side = some t → t < turn := by
        intro side t hsd hne hq
        have h2 := okSide_tail hq
        have hm : side * (n / 2) < n := by
          rcases Nat.lt_or_ge side 1 with h5 | h5
          · rw [show side = 0 from by omega]; omega
          · rw [show side = 1 from by omega]; omega
        have h4 := h.tails _ hm
        rw [h2.2.2.1, h2.2.2.2] at h4
        rcases h4 with h4 | h4 | h4
        · omega
        · exact h4
        · exfalso
          have := h2.1
          rw [h4.1] at this
          omega
      rcases Nat.mod_two_eq_zero_or_one turn with h5 | h5
      · rw [h5] at hok
        rcases hq : okSide R n sz 1 with _ | t
        · simp [stB, stepB, hok, hq]
        · have h6 := hoth 1 t (by omega) (by omega) hq
          simp [stB, stepB, hok, hq, newer_no h6 ht]
      · rw [h5] at hok
        rcases hq : okSide R n sz 0 with _ | t
        · simp [stB, stepB, hok, hq]
        · have h6 := hoth 0 t (by omega) (by omega) hq
          simp [stB, stepB, hok, hq, newer_yes h6 ht]
  refine ⟨hT, ?_⟩
  obtain ⟨fs, h1, h2, h3⟩ := h.fs
  unfold WOpened
  rw [hT, openAll_frames hs hs2 hn (by omega) fs 0 0 a (n / 2 + 1) h3 (by omega) (by omega) (by rw [Nat.zero_add, h2]; exact h.stop hn), h1, Nat.zero_add, h2]
/-- The ends of what was laid. -/
theorem lay_tail (R : Nat → List UInt8) (sz turn nx fr k s : Nat) (B : List UInt8) (ht : turn < 18446744073709551616) (hx : nx + 1 < 18446744073709551616) :
    (tailN (layR R (sz - 16) turn nx fr k B 0) sz s = 0 ∧ fr < s ∧ s < fr + k) ∨ (tailT (layR R (sz - 16) turn nx fr k B 0) sz s = turn ∧ s = fr ∧ s < fr + k) ∨
      (tailN (layR R (sz - 16) turn nx fr k B 0) sz s = tailN R sz s ∧ tailT (layR R (sz - 16) turn nx fr k B 0) sz s = tailT R sz s ∧ (s < fr ∨ fr + k ≤ s)) := by
  by_cases h : fr ≤ s ∧ s < fr + k
  · have e : layR R (sz - 16) turn nx fr k B 0 s = secB (sz - 16) turn nx B (s - fr) := by unfold layR; rw [if_pos (by omega)]
    by_cases h0 : s = fr
    · right; left
      refine ⟨?_, h0, h.2⟩
      unfold tailT
      rw [e, secB_drop, if_pos (by omega), List.take_left' (beN_length 8 turn)]
      exact deN_beN 8 _ (by simpa using ht)
    · left
      refine ⟨?_, by omega, h.2⟩
      unfold tailN
      rw [e, secB_drop, if_neg (by omega)]
      rfl
  · right; right
    have e : layR R (sz - 16) turn nx fr k B 0 s = R s := by unfold layR; rw [if_neg (by omega)]
    unfold tailN tailT
    rw [e]
    exact ⟨rfl, rfl, by omega⟩
theorem lay_at (R : Nat → List UInt8) (S turn nx fr k : Nat) (B : List UInt8) (i : Nat) (hi : i < k) : layR R S turn nx fr k B 0 (fr + i) = secB S turn nx B i := by
  unfold layR
  rw [if_pos (by omega), show fr + i - fr = i from by omega]
/-- A fresh disk. -/
theorem LogI.fresh (n sz : Nat) : LogI (fun _ => List.replicate sz 0) n sz 0 0 0 [] := by
  have e : ∀ k, deN (List.replicate k 0) = 0 := by
    intro k
    induction k with
    | zero => rfl
    | succ k ih => rw [List.replicate_succ', deN_snoc, ih]; rfl
  have ez : ∀ s, tailN (fun _ => List.replicate sz 0) sz s = 0 := by
    intro s
    unfold tailN
    rw [List.drop_replicate, List.drop_replicate, e]
  exact ⟨⟨[], rfl, rfl, rfl⟩, fun s _ => .inl (ez s), fun _ => ⟨rfl, fun s _ => ez s⟩⟩
/-- Behind a commit. -/
theorem LogI.commit (h : LogI R n sz turn next a rs) (f : List (List UInt8)) (hs : 128 ≤ sz) (hn : n ≤ 4096) (ht : turn < 4611686018427387904) (hf : a + lenF sz f ≤ n / 2) (hl : SmallR f) :
    LogI (layR R (sz - 16) turn next (turn % 2 * (n / 2) + a) (lenF sz f) (frameB turn next f) 0) n sz turn (next + 1) (a + lenF sz f) (rs ++ f) := by
  obtain ⟨fs, h1, h2, h3⟩ := h.fs
  have hb := h.bds hs
  refine ⟨⟨fs ++ [f], by simp [h1], by simp [h2], ?_⟩, fun s hsn => ?_, fun h0 => by omega⟩
  · refine Frames.snoc (Frames.congr hs h3 (by omega) (fun s q1 q2 => ?_)) (fun i hi => ?_) hf hl
    · unfold layR
      rw [if_neg (by omega)]
    · rw [Nat.zero_add, h2]
      exact lay_at _ _ _ _ _ _ _ i hi
  · rcases lay_tail R sz turn next (turn % 2 * (n / 2) + a) (lenF sz f) s (frameB turn next f) (by omega) (by omega) with q | q | q
    · exact .inl q.1
    · right; right
      omega
    · rw [q.1, q.2.1]
      rcases h.tails s hsn with q2 | q2 | q2
      · exact .inl q2
      · exact .inr (.inl q2)
      · right; right
        omega
/-- Behind a reset. -/
theorem LogI.reset (h : LogI R n sz turn next a rs) (f : List (List UInt8)) (hs : 128 ≤ sz) (hn : n ≤ 4096) (ht : turn < 4611686018427387904) (hf : 0 + lenF sz f ≤ n / 2) (hl : SmallR f) :
    LogI (layR R (sz - 16) (turn + 1) 0 ((turn + 1) % 2 * (n / 2) + 0) (lenF sz f) (frameB (turn + 1) 0 f) 0) n sz (turn + 1) 1 (0 + lenF sz f) f := by
  refine ⟨⟨[f], by simp, rfl, fun i hi => lay_at _ _ _ _ _ _ _ i hi, hf, hl, rfl⟩, fun s hsn => ?_, fun h0 => by omega⟩
  rcases lay_tail R sz (turn + 1) 0 ((turn + 1) % 2 * (n / 2) + 0) (lenF sz f) s (frameB (turn + 1) 0 f) (by omega) (by omega) with q | q | q
  · exact .inl q.1
  · right; right
    omega
  · rw [q.1, q.2.1]
    rcases h.tails s hsn with q2 | q2 | q2
    · exact .inl q2
    · right; left; omega
    · right; left; omega
end

end Go.Proofs.YtbkncfedahifkaaGreat

/-
  The statements of layer 4: logs as wholes; known.
-/
set_option linter.unusedVariables false
set_option linter.unusedSimpArgs false
namespace Go.Proofs.YtbkncfedahifkaaGreat
open Go.RowKit Go.Maps

theorem RowsO.recs {w : World} {base : Nat} {v : Value} {rs : List (List UInt8)} (h : RowsO w base v rs) (F : List Nat) (hF : ∀ x ∈ F, x < base ∨ w.heap.size ≤ x) : ∃ A c, v = .slice A rs.length c ∧ Recs w F A rs.length c rs := by
  obtain ⟨vs, h1, h2⟩ := h
  obtain ⟨A, c, rfl⟩ := own_slice h1
  refine ⟨A, c, rfl, ⟨vs, own_rd h1, fun i hi => ?_⟩, rfl, fun a ha hm => ?_⟩
  · obtain ⟨u, q1, A', n', c', rfl, q2, q3⟩ := h2 i hi
    exact ⟨_, q1, A', n', c', rfl, q2, fun a ha hm => by have := (q3 a ha).1; have := (q3 a ha).2.1; have := hF _ hm; omega⟩
  · subst ha
    have := own_ge h1 a.block rfl
    have := own_lt h1 a.block rfl
    have := hF _ hm
    omega
/-- A log, and what it holds. -/
def Logg (w : World) (lb um b g m : Nat) (X : List Nat) (n sz turn a : Nat) (rs : List (List UInt8)) : Prop := ∃ R next, LogS w lb um b g m X n sz R turn next a rs.length ∧ LogI R n sz turn next a rs
/-- A disk that holds a log. -/
def Logd (w : World) (b g m : Nat) (X : List Nat) (n sz turn a : Nat) (rs : List (List UInt8)) : Prop := ∃ R next, Live w b g m X n sz R ∧ LogI R n sz turn next a rs
section
variable {w w' : World} {lb um b g m n sz turn a : Nat} {X : List Nat} {rs : List (List UInt8)}
theorem Logg.keep (h : Logg w lb um b g m X n sz turn a rs) (hc : Ch X w w') : Logg w' lb um b g m X n sz turn a rs := by
  obtain ⟨R, next, h1, h2⟩ := h
  exact ⟨R, next, h1.keep hc, h2⟩
theorem Logg.nil (h : Logg w lb um b g m X n sz turn a rs) (hc : Ch [] w w') : Logg w' lb um b g m X n sz turn a rs := h.keep (hc.mono (by simp))
theorem Logd.nil (h : Logd w b g m X n sz turn a rs) (hc : Ch [] w w') : Logd w' b g m X n sz turn a rs := by
  obtain ⟨R, next, h1, h2⟩ := h
  exact ⟨R, next, h1.nil hc, h2⟩
theorem Logg.disk (h : Logg w lb um b g m X n sz turn a rs) : Logd w b g m (lb :: um :: X) n sz turn a rs := by
  obtain ⟨R, next, h1, h2⟩ := h
  exact ⟨R, next, h1.live, h2⟩
theorem Logd.sub (h : Logd w b g m X n sz turn a rs) {Y : List Nat} (hY : ∀ x ∈ Y, x ∈ X) : Logd w b g m Y n sz turn a rs := by
  obtain ⟨R, next, h1, h2⟩ := h
  exact ⟨R, next, h1.sub hY, h2⟩
theorem Logd.lts (h : Logd w b g m X n sz turn a rs) : b < w.heap.size ∧ g < w.heap.size ∧ m < w.heap.size := by
  obtain ⟨R, next, h1, h2⟩ := h
  exact h1.lts
theorem newdisk_any (n sz : Nat) (X : List Nat) (w : World) (hX : ∀ x ∈ X, x < w.heap.size) (hn0 : 1 ≤ n) (hn1 : n ≤ 4096) (hs0 : 64 ≤ sz) (hs1 : sz ≤ 4096) :
    Calls Tryz.prog 14 #[.int .i64 (n : Int), .int .i64 (sz : Int)] w fun e w' => ∃ b g m, e = .returned (.pointer (some ⟨b, 0, none⟩)) ∧ w.heap.size ≤ b ∧ w.heap.size ≤ g ∧ w.heap.size ≤ m ∧
      Logd w' b g m X n sz 0 0 [] ∧ Ch [] w w' := by
  refine (new_live_any n sz X w hX hn0 hn1 hs0 hs1).mono ?_
  rintro e w1 ⟨b, g, m, rfl, h1, h2, h3, h4, h5⟩
  exact ⟨b, g, m, rfl, h1, h2, h3, ⟨_, 0, h4, LogI.fresh n sz⟩, h5⟩
theorem openlog_any (w : World) (h : Logd w b g m X n sz turn a rs) (hX : ∀ x ∈ X, x < w.heap.size) (hn : 16 ≤ n) (hsz : 128 ≤ sz) (ht : turn < 4611686018427387904) :
    Calls Tryz.prog 47 #[.pointer (some ⟨b, 0, none⟩)] w fun e w' => ∃ lb um A c, e = .returned (.tuple #[.pointer (some ⟨lb, 0, none⟩), .slice A rs.length c, .int .i64 0]) ∧ w.heap.size ≤ lb ∧ w.heap.size ≤ um ∧
      Logg w' lb um b g m X n sz turn a rs ∧ RowsO w' w.heap.size (.slice A rs.length c) rs ∧ Ch [] w w' := by
  obtain ⟨R, next, h1, h2⟩ := h
  have hb := h1.bds
  have ho := h2.opened hsz hb.2.1 hn hb.2.2.2 ht
  refine (wopen_any b g m n sz X R w h1 hX hn hsz).mono ?_
  rintro e w1 ⟨lb, um, v, rfl, q1, q2, q3, q4, q5⟩
  rw [ho.1, ho.2] at q3
  rw [ho.2] at q4
  obtain ⟨A, c, rfl, _⟩ := q4.recs [] (by simp)
  exact ⟨lb, um, A, c, rfl, q1, q2, ⟨R, next, q3, h2⟩, q4, q5⟩
theorem commitE_small {rs : List (List UInt8)} (h : rs.any longB = false) : SmallR rs := by
  intro r hr
  have := List.any_eq_false.1 h r hr
  simp [longB] at this
  omega
theorem commit_any (A : Option Addr) (k c : Nat) (f : List (List UInt8)) (w : World) (h : Logg w lb um b g m X n sz turn a rs) (hX : ∀ x ∈ X, x < w.heap.size) (hr : Recs w [lb, b, g, m, um] A k c f) (hk : k ≤ 1000000) (hlen : ∀ r ∈ f, r.length ≤ 1000000000000) (ht : turn < 4611686018427387904) (hf : commitE n sz a f = 0) (hC : rs.length < 4000000000000000000) :
    Calls Tryz.prog 54 #[.pointer (some ⟨lb, 0, none⟩), .slice A k c] w fun e w' => e = .returned (.int .i64 0) ∧ Logg w' lb um b g m X n sz turn (a + lenF sz f) (rs ++ f) ∧ Ch [lb, b, g, m, um] w w' := by
  obtain ⟨R, next, h1, h2⟩ := h
  have hb := h1.bds
  have hz := commitE_zero hf
  have hb2 := h2.bds h1.s128
  have hfit : a + lenF sz f ≤ n / 2 := by
    have h3 := secsN_le (sz - 16) (32 + (bodyB f).length) (n / 2 - a) (by omega) hz.2
    unfold lenF
    omega
  refine (wcommit_ok A k c _ f w h1 hX hr hk hlen hf (by omega) hC).mono ?_
  rintro e w1 ⟨rfl, q1, q2⟩
  exact ⟨rfl, ⟨_, next + 1, by rw [List.length_append]; exact q1, h2.commit f h1.s128 hb.2.1 ht hfit (commitE_small hz.1)⟩, q2⟩
theorem commit_no (A : Option Addr) (k c : Nat) (F : List Nat) (f : List (List UInt8)) (w : World) (h : Logg w lb um b g m X n sz turn a rs) (hr : Recs w F A k c f) (hk : k ≤ 1000000) (hlen : ∀ r ∈ f, r.length ≤ 1000000000000) (hf : commitE n sz a f ≠ 0) :
    Calls Tryz.prog 54 #[.pointer (some ⟨lb, 0, none⟩), .slice A k c] w fun e w' => e = .returned (.int .i64 (commitE n sz a f)) ∧ Ch [] w w' := by
  obtain ⟨R, next, h1, h2⟩ := h
  exact wcommit_bad A k c F f w h1 hr hk hlen hf
theorem reset_any (A : Option Addr) (k c : Nat) (f : List (List UInt8)) (w : World) (h : Logg w lb um b g m X n sz turn a rs) (hX : ∀ x ∈ X, x < w.heap.size) (hr : Recs w [lb, b, g, m, um] A k c f) (hk : k ≤ 1000000) (hlen : ∀ r ∈ f, r.length ≤ 1000000000000) (ht : turn < 4611686018427387904) (hf : commitE n sz 0 f = 0) :
    Calls Tryz.prog 87 #[.pointer (some ⟨lb, 0, none⟩), .slice A k c] w fun e w' => e = .returned (.int .i64 0) ∧ Logg w' lb um b g m X n sz (turn + 1) (lenF sz f) f ∧ Ch [lb, b, g, m, um] w w' := by
  obtain ⟨R, next, h1, h2⟩ := h
  have hb := h1.bds
  have hz := commitE_zero hf
  have hfit : 0 + lenF sz f ≤ n / 2 := by
    have h3 := secsN_le (sz - 16) (32 + (bodyB f).length) (n / 2 - 0) (by omega) hz.2
    unfold lenF
    omega
  refine (wreset_ok A k c _ f w h1 hX hr hk hlen hf ht).mono ?_
  rintro e w1 ⟨rfl, q1, q2⟩
  have q3 := h2.reset f h1.s128 hb.2.1 ht hfit (commitE_small hz.1)
  rw [Nat.zero_add (lenF sz f)] at q3
  unfold lenF at q3 ⊢
  rw [Nat.zero_add (secsN _ _)] at q1
  exact ⟨rfl, ⟨_, 1, q1, q3⟩, q2⟩
theorem reset_no (A : Option Addr) (k c : Nat) (F : List Nat) (f : List (List UInt8)) (w : World) (h : Logg w lb um b g m X n sz turn a rs) (hr : Recs w F A k c f) (hk : k ≤ 1000000) (hlen : ∀ r ∈ f, r.length ≤ 1000000000000) (hf : commitE n sz 0 f ≠ 0) (ht : turn < 4611686018427387904) :
    Calls Tryz.prog 87 #[.pointer (some ⟨lb, 0, none⟩), .slice A k c] w fun e w' => e = .returned (.int .i64 (commitE n sz 0 f)) ∧ Ch [] w w' := by
  obtain ⟨R, next, h1, h2⟩ := h
  exact wreset_bad A k c F f w h1 hr hk hlen hf ht
theorem Logg.out (h : Logg w lb um b g m X n sz turn a rs) : lb < w.heap.size ∧ um < w.heap.size ∧ b < w.heap.size ∧ g < w.heap.size ∧ m < w.heap.size := by
  obtain ⟨R, next, h1, h2⟩ := h
  have h3 := h1.live.lts
  have h4 := lt_of_at h1.cells
  have h5 := h1.map
  exact ⟨h4, h5.lt, h3⟩
end
/-- Bytes in a block. -/
theorem rd_block {w : World} {b : Nat} {t : TypeId} {fr : Nat × Nat} (L : List UInt8) (h : w.heap[b]? = some (.cells (bvs L).toArray t fr)) (hl : L.length ≤ maxLen) : RdB w (some ⟨b, 0, none⟩) L.length L.length L :=
  ⟨by rw [bvs_length]; omega, Nat.le_refl _, hl, fun _ => ⟨b, 0, rfl, fun j u hu => by rw [Nat.zero_add]; exact cell_at h j (by simpa using hu)⟩⟩

end Go.Proofs.YtbkncfedahifkaaGreat
