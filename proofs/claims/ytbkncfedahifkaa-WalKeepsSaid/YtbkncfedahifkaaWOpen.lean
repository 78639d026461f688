/-
  Package wal: open.
-/
import Derived.Test.YtbkncfedahifkaaWOpenSpec
set_option linter.unusedVariables false
set_option linter.unusedSimpArgs false
namespace Go.Proofs.Ytbkncfedahifkaa
open Go.RowKit Go.Maps

/-- What open comes to. -/
def OpenPost (w : World) (r : Option (Nat × List (List UInt8) × Nat)) (e : Ending) (w' : World) : Prop :=
  Ch [] w w' ∧ match r with
    | some (t, rs, bh) => ∃ v, e = .returned (.tuple #[.int .u64 (t : Int), v, .int .i64 (bh : Int)]) ∧ RowsO w' w.heap.size v rs
    | none => e = .panicked stopW
theorem open_none {w w' : World} {r : Option (Nat × List (List UInt8) × Nat)} (hr : r = none) (hc : Ch [] w w') : OpenPost w r (.panicked stopW) w' := ⟨hc, by rw [hr]⟩

section
variable {lb um b g m n sz turn next at_ count : Nat} {X : List Nat} {R : Nat → List UInt8}
set_option maxRecDepth 100000 in
set_option maxHeartbeats 4000000 in
theorem open_any (side a nx : Nat) (w : World) (h : LogS w lb um b g m X n sz R turn next at_ count) (hs : side < 2) (hnx : nx < 9223372036854775808) (haB : a ≤ 1000000) :
    Calls Try.prog 90 #[.pointer (some ⟨lb, 0, none⟩), .int .i64 (side : Int), .int .i64 (a : Int), .int .u64 (nx : Int)] w (OpenPost w (openF R n sz side a nx)) := by
  have hb := h.bds
  by_cases ha : ¬ a < n / 2
  · have hno : openF R n sz side a nx = none := by simp [openF, ha]
    have hse := wsector_no side a w h (by omega)
    have HNO := Lib.hid hno
    clear hno
    go_enter Try.func90, Try.ntmps90
    go_wp2_with fail
    refine hse.mono ?_
    rintro e w' ⟨rfl, rfl⟩
    exact ⟨rfl, open_none HNO.out (Ch.refl _ _)⟩
  have ha : a < n / 2 := by omega
  have hfi : side * (n / 2) + a < n := by
    have : side * (n / 2) ≤ 1 * (n / 2) := Nat.mul_le_mul_right _ (by omega)
    omega
  have hse := wsector_yes side a w h hs ha
  have hxl := h.live.len _ hfi
  go_enter Try.func90, Try.ntmps90
  go_wp2_with fail
  refine hse.mono ?_
  rintro e w1 ⟨x, c, rfl, hx1, hx2, hrow, hc1⟩
  clear hse
  have hL1 := h.nil hc1
  have hz1 := wsize w1.drew (hL1.nil (Ch.refl _ _).drew)
  generalize hSe : sz - 16 = S at *
  have hS1 : S + 16 ≤ sz := by omega
  have hS2 : sz ≤ S + 16 := by omega
  have hS3 : S ≤ sz := by omega
  have hS4 : 112 ≤ S := by omega
  obtain ⟨cur, _, _, hcap1, hcap2, _⟩ := own_block hrow
  unfold maxLen at hcap2
  have hSc : S ≤ c := by omega
  have hSc2 : S + 16 ≤ c := by omega
  have hSc3 : ¬ c = S := by omega
  have hC16 : (16 : Int) ≤ (c : Int) := by omega
  have hC32 : (32 : Int) ≤ (c : Int) := by omega
  have hcn8 : ¬ c = 8 := by omega
  have hcn24 : ¬ c = 24 := by omega
  have HZ1 := Lib.hid hz1
  have HSE := Lib.hid hSe
  clear hz1 hSe
  have hXE : ∃ L : List UInt8, R (side * (n / 2) + a) = L := ⟨_, rfl⟩
  obtain ⟨L, hL⟩ := hXE
  have HLE := Lib.hid hL
  rw [hL] at hrow hxl
  clear hL
  have hrow2 := own_keep hrow (Ch.refl [] w1).drew.drew (by simp)
  have hbE : ∃ Bb : List UInt8, L.take S = Bb := ⟨_, rfl⟩
  obtain ⟨Bb, hBb⟩ := hbE
  have hBl : Bb.length = S := by rw [← hBb, List.length_take]; omega
  have hsub : ∀ o cc : Nat, o + 8 ≤ S → 8 ≤ cc → cc ≤ c → RdB w1.drew.drew (some ⟨x, o, none⟩) 8 cc ((Bb.drop o).take 8) := by
    intro o cc h1 h2 h3
    have h4 := row_sub hrow2 o 8 cc (by omega) h2 (by unfold maxLen; omega)
    rw [← hBb, List.drop_take, List.take_take, Nat.min_eq_left (by omega)]
    exact h4
  have hg1 := get_any _ _ _ _ _ (hsub 8 (c - 8) (by omega) (by omega) (by omega)) (by omega)
  have hg2 := get_any _ _ _ _ _ (hsub 24 (c - 24) (by omega) (by omega) (by omega)) (by omega)
  have HSUB := Lib.hid hsub
  clear hsub
  have HG1 := Lib.hid hg1
  have HG2 := Lib.hid hg2
  have HBb := Lib.hid hBb
  clear hg1 hg2 hBb
  go_wp2_with fail
  refine dr_begin (by kernel_rfl) ?_
  have hT : True := trivial
  refine dr_take 0 (some 25) (v := ?_) rfl rfl (by kernel_rfl) (by kernel_rfl) (by kernel_rfl) (fun _ _ _ h => h) rfl hT (fun W _ => ?_) ?_
  rotate_left
  · (go_simp; try with_reducible rfl)
  try simp only [Act.put, List.setIfInBounds_toArray, List.set_cons_zero, List.set_cons_succ]
  refine dr_take 1 (some 26) (v := ?_) rfl rfl (by kernel_rfl) (by kernel_rfl) (by kernel_rfl) (fun _ _ _ h => h) rfl hT (fun W _ => ?_) ?_
  rotate_left
  · (go_simp; try with_reducible rfl)
  try simp only [Act.put, List.setIfInBounds_toArray, List.set_cons_zero, List.set_cons_succ]
  refine dr_take 4 (some 29) (v := ?_) rfl rfl (by kernel_rfl) (by kernel_rfl) (by kernel_rfl) (fun _ _ _ h => h) rfl hT (fun W _ => ?_) ?_
  rotate_left
  · (go_simp; try with_reducible rfl)
  try simp only [Act.put, List.setIfInBounds_toArray, List.set_cons_zero, List.set_cons_succ]
  refine dr_take 5 (some 30) (v := ?_) rfl rfl (by kernel_rfl) (by kernel_rfl) (by kernel_rfl) (fun _ _ _ h => h) rfl hT (fun W _ => ?_) ?_
  rotate_left
  · (go_simp; try with_reducible rfl)
  try simp only [Act.put, List.setIfInBounds_toArray, List.set_cons_zero, List.set_cons_succ]
  refine dr_step 2 rfl (by kernel_rfl) rfl (fun K hK => ?_)
  go_simp
  refine HZ1.out.mono ?_
  rintro e v ⟨rfl, rfl⟩
  refine hK.out _ _ hT ?_
  clear hK K
  try simp only [Act.put, List.setIfInBounds_toArray, List.set_cons_zero, List.set_cons_succ]
  refine dr_take 3 (some 28) (v := ?_) rfl rfl (by kernel_rfl) (by kernel_rfl) (by kernel_rfl) (fun _ _ _ h => h) rfl hT (fun W _ => ?_) ?_
  rotate_left
  · (go_simp; try with_reducible rfl)
  try simp only [Act.put, List.setIfInBounds_toArray, List.set_cons_zero, List.set_cons_succ]
  refine dr_step 6 rfl (by kernel_rfl) rfl (fun K hK => ?_)
  go_simp
  refine HZ1.out.mono ?_
  rintro e v ⟨rfl, rfl⟩
  refine hK.out _ _ hT ?_
  clear hK K
  try simp only [Act.put, List.setIfInBounds_toArray, List.set_cons_zero, List.set_cons_succ]
  refine dr_take 7 (some 32) (v := ?_) rfl rfl (by kernel_rfl) (by kernel_rfl) (by kernel_rfl) (fun _ _ _ h => h) rfl hT (fun W _ => ?_) ?_
  rotate_left
  · (go_simp; try with_reducible rfl)
  try simp only [Act.put, List.setIfInBounds_toArray, List.set_cons_zero, List.set_cons_succ]
  refine dr_take 8 (some 12) (v := ?_) rfl rfl (by kernel_rfl) (by kernel_rfl) (by kernel_rfl) (fun _ _ _ h => h) rfl hT (fun W _ => ?_) ?_
  rotate_left
  · (go_simp; try with_reducible rfl)
  try simp only [Act.put, List.setIfInBounds_toArray, List.set_cons_zero, List.set_cons_succ]
  refine dr_take 9 (some 13) (v := ?_) rfl rfl (by kernel_rfl) (by kernel_rfl) (by kernel_rfl) (fun _ _ _ h => h) rfl hT (fun W _ => ?_) ?_
  rotate_left
  · (go_simp; try with_reducible rfl)
  try simp only [Act.put, List.setIfInBounds_toArray, List.set_cons_zero, List.set_cons_succ]
  refine dr_done (by kernel_rfl) ?_
  go_wp2_with fail
  refine dr_begin (by kernel_rfl) ?_
  refine dr_take 0 (some 33) (v := ?_) rfl rfl (by kernel_rfl) (by kernel_rfl) (by kernel_rfl) (fun _ _ _ h => h) rfl hT (fun W _ => ?_) ?_
  rotate_left
  · (go_simp; try with_reducible rfl)
  try simp only [Act.put, List.setIfInBounds_toArray, List.set_cons_zero, List.set_cons_succ]
  refine dr_take 1 (some 34) (v := ?_) rfl rfl (by kernel_rfl) (by kernel_rfl) (by kernel_rfl) (fun _ _ _ h => h) rfl hT (fun W _ => ?_) ?_
  rotate_left
  · (go_simp; try with_reducible rfl)
  try simp only [Act.put, List.setIfInBounds_toArray, List.set_cons_zero, List.set_cons_succ]
  refine dr_take 3 (some 36) (v := ?_) rfl rfl (by kernel_rfl) (by kernel_rfl) (by kernel_rfl) (fun _ _ _ h => h) rfl hT (fun W _ => ?_) ?_
  rotate_left
  · (go_simp; try with_reducible rfl)
  try simp only [Act.put, List.setIfInBounds_toArray, List.set_cons_zero, List.set_cons_succ]
  refine dr_take 4 (some 37) (v := ?_) rfl rfl (by kernel_rfl) (by kernel_rfl) (by kernel_rfl) (fun _ _ _ h => h) rfl hT (fun W _ => ?_) ?_
  rotate_left
  · (go_simp; try with_reducible rfl)
  try simp only [Act.put, List.setIfInBounds_toArray, List.set_cons_zero, List.set_cons_succ]
  refine dr_step 2 rfl (by kernel_rfl) rfl (fun K hK => ?_)
  go_simp
  refine HG1.out.mono ?_
  rintro e v ⟨rfl, rfl⟩
  refine hK.out _ _ hT ?_
  clear hK K
  try simp only [Act.put, List.setIfInBounds_toArray, List.set_cons_zero, List.set_cons_succ]
  refine dr_step 5 rfl (by kernel_rfl) rfl (fun K hK => ?_)
  go_simp
  refine HG2.out.mono ?_
  rintro e v ⟨rfl, rfl⟩
  refine hK.out _ _ hT ?_
  clear hK K
  try simp only [Act.put, List.setIfInBounds_toArray, List.set_cons_zero, List.set_cons_succ]
  refine dr_take 6 (some 14) (v := ?_) rfl rfl (by kernel_rfl) (by kernel_rfl) (by kernel_rfl) (fun _ _ _ h => h) rfl hT (fun W _ => ?_) ?_
  rotate_left
  · (go_simp; try with_reducible rfl)
  try simp only [Act.put, List.setIfInBounds_toArray, List.set_cons_zero, List.set_cons_succ]
  refine dr_take 7 (some 15) (v := ?_) rfl rfl (by kernel_rfl) (by kernel_rfl) (by kernel_rfl) (fun _ _ _ h => h) rfl hT (fun W _ => ?_) ?_
  rotate_left
  · (go_simp; try with_reducible rfl)
  try simp only [Act.put, List.setIfInBounds_toArray, List.set_cons_zero, List.set_cons_succ]
  refine dr_done (by kernel_rfl) ?_
  have hL2 : LogS w1.drew.drew lb um b g m X n sz R turn next at_ count := hL1.nil (Ch.refl _ _).drew.drew
  have hc2 : Ch [] w w1.drew.drew := hc1.drew.drew
  have hsg := HSUB.out 0 c (by omega) (by omega) (by omega)
  have hs16 := HSUB.out 16 (c - 16) (by omega) (by omega) (by omega)
  have he0 : RdB w1.drew.drew (some ⟨x, S, none⟩) 8 (c - S) ((L.drop S).take 8) := row_sub hrow2 S 8 (c - S) (by omega) (by omega) (by unfold maxLen; omega)
  have he8 : RdB w1.drew.drew (some ⟨x, S + 8, none⟩) 8 (c - S - 8) ((L.drop (S + 8)).take 8) := row_sub hrow2 (S + 8) 8 (c - S - 8) (by omega) (by omega) (by unfold maxLen; omega)
  have he8' : (L.drop (S + 8)).take 8 = (L.drop S).drop 8 := by rw [List.drop_drop, List.take_of_length_le (by rw [List.length_drop]; omega)]
  rw [he8'] at he8
  have hbr : RdB w1.drew.drew (some ⟨x, 0, none⟩) S c Bb := by
    have h4 := row_sub hrow2 0 S c (by omega) (by omega) (by unfold maxLen; omega)
    rw [List.drop_zero, HBb.out] at h4
    exact h4
  clear HSUB HG1 HG2 HZ1 hrow hrow2 he8' hL1 hc1 hx1 hT
  generalize hw2 : w1.drew.drew = w2 at *
  clear hw2
  have hconv := conv_str hsg 28 5 9 Try.underlying28 Try.underlying5 Try.underlying9
  rw [List.drop_zero] at hconv
  have hg3 := get_any _ _ _ _ w2 hs16 (by omega)
  have hg4 := get_any _ _ _ _ w2 he0 (by omega)
  have hg5 := get_any _ _ _ _ w2 he8 (by omega)
  have htb : deN ((Bb.drop 8).take 8) < 18446744073709551616 := by
    have h4 := deN_lt ((Bb.drop 8).take 8)
    have h5 : ((Bb.drop 8).take 8).length = 8 := by rw [List.length_take, List.length_drop]; omega
    rw [h5] at h4
    exact h4
  have hmb : deN ((Bb.drop 24).take 8) < 18446744073709551616 := by
    have h4 := deN_lt ((Bb.drop 24).take 8)
    have h5 : ((Bb.drop 24).take 8).length = 8 := by rw [List.length_take, List.length_drop]; omega
    rw [h5] at h4
    exact h4
  have hopen : openF R n sz side a nx = if a < n / 2 ∧ Bb.take 8 = signB ∧ deN ((Bb.drop 16).take 8) = nx ∧ deN ((L.drop S).take 8) = deN ((Bb.drop 8).take 8) ∧ deN ((L.drop S).drop 8) = nx + 1 ∧ deN ((Bb.drop 24).take 8) + 32 ≤ (n / 2 - a) * S then
      (recsP (deN ((Bb.drop 24).take 8) + 1) (((secsB R S (side * (n / 2) + a) (secsN S (32 + deN ((Bb.drop 24).take 8)))).drop 32).take (deN ((Bb.drop 24).take 8)))).map fun rs => (deN ((Bb.drop 8).take 8), rs, a + secsN S (32 + deN ((Bb.drop 24).take 8))) else none := by
    unfold openF
    simp only [HSE.out, HLE.out, HBb.out]
  have HOP := Lib.hid hopen
  clear hopen hsg hs16 he0 he8
  have hsN : ∀ l, l ≠ signB → binOp .eql 9 (.string (str l)) (.string ⟨#[72, 65, 86, 69, 82, 83, 65, 75]⟩) = pure (.bool false) := by
    intro l hne
    refine eql_str_no _ (fun e => hne ?_)
    have := congrArg (fun s : ByteArray => s.data.toList) e
    simpa [str, signB] using this
  have hsY : binOp .eql 9 (.string (str signB)) (.string ⟨#[72, 65, 86, 69, 82, 83, 65, 75]⟩) = pure (.bool true) := eql_str_yes _ _
  generalize hte : deN ((Bb.drop 8).take 8) = tq at *
  generalize hme : deN ((Bb.drop 24).take 8) = mq at *
  generalize hse : Bb.take 8 = sg at *
  generalize hxe : deN ((Bb.drop 16).take 8) = xq at *
  generalize hee : deN ((L.drop S).take 8) = eq0 at *
  generalize hfe : deN ((L.drop S).drop 8) = eq8 at *
  have HNN := Lib.hid hsN
  have HTE := Lib.hid hte
  have HME := Lib.hid hme
  have HG3 := Lib.hid hg3
  have HG4 := Lib.hid hg4
  have HG5 := Lib.hid hg5
  clear hte hme hse hxe hee hfe hsN hg3 hg4 hg5
  by_cases hsgn : ¬ sg = signB
  · have hno : openF R n sz side a nx = none := by rw [HOP.out, if_neg (fun h => hsgn h.2.1)]
    have hq := HNN.out sg hsgn
    have HNO := Lib.hid hno
    have HSG := Lib.hid hsgn
    clear hno hsgn hsY
    go_wp2_with fail
    refine (wmust_no _).mono ?_
    rintro e w' ⟨rfl, rfl⟩
    exact ⟨rfl, open_none HNO.out hc2⟩
  obtain rfl : sg = signB := by simpa using hsgn
  clear hsgn HNN
  by_cases hnq : ¬ xq = nx
  · have hno : openF R n sz side a nx = none := by rw [HOP.out, if_neg (fun h => hnq h.2.2.1)]
    have hq : ((xq : Int) == (nx : Int)) = false := by rw [beq_eq_false_iff_ne]; omega
    have hq2 : (xq == nx) = false := by rw [beq_eq_false_iff_ne]; exact hnq
    have HNO := Lib.hid hno
    clear hno
    go_wp2_with fail
    refine HG3.out.mono ?_
    rintro e w' ⟨rfl, rfl⟩
    go_wp2_with fail
    refine (wmust_no _).mono ?_
    rintro e w' ⟨rfl, rfl⟩
    exact ⟨rfl, open_none HNO.out hc2⟩
  obtain rfl : xq = nx := by omega
  clear hnq
  go_wp2_with fail
  refine HG3.out.mono ?_
  rintro e w' ⟨rfl, rfl⟩
  go_wp2_with fail
  refine (wmust_yes _ _).mono ?_
  rintro e w' ⟨rfl, rfl⟩
  clear hconv hsY HG3
  have hcs8 : ¬ c - S = 8 := by omega
  have h8s : (8 : Int) ≤ ((sz - S : Nat) : Int) := by omega
  have h8c : (8 : Int) ≤ ((c - S : Nat) : Int) := by omega
  have h8n : 8 ≤ sz - S := by omega
  have h8m : 8 ≤ c - S := by omega
  by_cases heq : ¬ eq0 = tq
  · have hno : openF R n sz side a xq = none := by rw [HOP.out, if_neg (fun h => heq h.2.2.2.1)]
    have hq : ((eq0 : Int) == (tq : Int)) = false := by rw [beq_eq_false_iff_ne]; omega
    have hq2 : (eq0 == tq) = false := by rw [beq_eq_false_iff_ne]; exact heq
    have HNO := Lib.hid hno
    clear hno
    go_wp2_with fail
    refine HG4.out.mono ?_
    rintro e w' ⟨rfl, rfl⟩
    go_wp2_with fail
    refine (wmust_no _).mono ?_
    rintro e w' ⟨rfl, rfl⟩
    exact ⟨rfl, open_none HNO.out hc2⟩
  obtain rfl : eq0 = tq := by omega
  clear heq
  by_cases he8q : ¬ eq8 = xq + 1
  · have hno : openF R n sz side a xq = none := by rw [HOP.out, if_neg (fun h => he8q h.2.2.2.2.1)]
    have hq : ((eq8 : Int) == (xq : Int) + 1) = false := by rw [beq_eq_false_iff_ne]; omega
    have HNO := Lib.hid hno
    clear hno
    go_wp2_with fail
    refine HG4.out.mono ?_
    rintro e w' ⟨rfl, rfl⟩
    go_wp2_with fail
    rw [show sz - S - 8 = 8 from by omega]
    refine HG5.out.mono ?_
    rintro e w' ⟨rfl, rfl⟩
    go_wp2_with fail
    refine (wmust_no _).mono ?_
    rintro e w' ⟨rfl, rfl⟩
    exact ⟨rfl, open_none HNO.out hc2⟩
  have he8e : eq8 = xq + 1 := by omega
  have he8z : ((eq8 : Int) == (xq : Int) + 1) = true := by rw [beq_iff_eq]; omega
  have HE8 := Lib.hid he8e
  clear he8q he8e
  have hm := wmost a w2 hL2 (by omega)
  rw [HSE.out] at hm
  have hZ1 : 112 ≤ (n / 2 - a) * S := by
    have : 1 * S ≤ (n / 2 - a) * S := Nat.mul_le_mul_right _ (by omega)
    omega
  have hZ2 : (n / 2 - a) * S ≤ 2048 * 4096 := Nat.mul_le_mul (by omega) (by omega)
  have hsle : ∀ y, y ≤ (n / 2 - a) * S → secsN S y ≤ n / 2 - a := fun y hy => secsN_le S y _ (by omega) hy
  have HSLE := Lib.hid hsle
  clear hsle
  generalize hZe : (n / 2 - a) * S = Z at *
  have HZE := Lib.hid hZe
  clear hZe
  go_wp2_with fail
  refine HG4.out.mono ?_
  rintro e w' ⟨rfl, rfl⟩
  go_wp2_with fail
  rw [show sz - S - 8 = 8 from by omega]
  refine HG5.out.mono ?_
  rintro e w' ⟨rfl, rfl⟩
  clear HG4 HG5
  go_wp2_with fail
  refine (wmust_yes _ _).mono ?_
  rintro e w' ⟨rfl, rfl⟩
  clear he8z
  go_wp2_with fail
  refine hm.mono ?_
  rintro e w' ⟨rfl, rfl⟩
  have hwZ : IntKind.u64.wrap ((Z : Int) - 32) = (Z : Int) - 32 := by rw [IntKind.wrap_u64]; omega
  by_cases hmq : ¬ mq + 32 ≤ Z
  · have hno : openF R n sz side a xq = none := by rw [HOP.out, if_neg (fun h => hmq h.2.2.2.2.2)]
    have hq : decide ((mq : Int) ≤ (Z : Int) - 32) = false := by simp; omega
    have HNO := Lib.hid hno
    clear hno
    go_wp2_with fail
    refine (wmust_no _).mono ?_
    rintro e w' ⟨rfl, rfl⟩
    exact ⟨rfl, open_none HNO.out hc2⟩
  have hmq2 : mq + 32 ≤ Z := by omega
  have hq : decide ((mq : Int) ≤ (Z : Int) - 32) = true := by simp; omega
  go_wp2_with fail
  refine (wmust_yes _ _).mono ?_
  rintro e w' ⟨rfl, rfl⟩
  clear hq hm
  have hsc := wsectors (32 + mq) w2 hL2 (by omega)
  rw [HSE.out, Int.natCast_add] at hsc
  have hk := HSLE.out (32 + mq) (by omega)
  have hkp : 1 ≤ secsN S (32 + mq) := by
    unfold secsN
    have hd := Nat.div_add_mod (32 + mq) S
    rcases Nat.eq_zero_or_pos ((32 + mq) / S) with hz | hz
    · rw [hz, Nat.mul_zero, Nat.zero_add] at hd
      omega
    · omega
  have hkS : 32 + mq ≤ secsN S (32 + mq) * S := by
    unfold secsN
    have hd := Nat.div_add_mod (32 + mq) S
    rw [Nat.mul_comm] at hd
    rcases Nat.eq_zero_or_pos ((32 + mq) % S) with hz | hz
    · rw [hz] at hd ⊢
      simp
      omega
    · rw [show min ((32 + mq) % S) 1 = 1 from by omega, Nat.add_mul, Nat.one_mul]
      have := Nat.mod_lt (32 + mq) (show 0 < S by omega)
      omega
  have hopS : openF R n sz side a xq = (recsP (mq + 1) (((secsB R S (side * (n / 2) + a) (secsN S (32 + mq))).drop 32).take mq)).map fun rs => (eq0, rs, a + secsN S (32 + mq)) := by
    rw [HOP.out, if_pos (by refine ⟨ha, ?_, ?_, ?_, HE8.out, hmq2⟩ <;> trivial)]
  have HOS := Lib.hid hopS
  clear HOP hopS HSLE hwZ
  generalize hke : secsN S (32 + mq) = k at *
  have HKE := Lib.hid hke
  clear hke
  have hcl := clone_bytes (some ⟨x, 0, none⟩) S c Bb
  go_wp2_with fail
  refine hsc.mono ?_
  rintro e w3 ⟨rfl, hc3⟩
  have hL3 := hL2.nil hc3
  have hcw3 := hc2.trans hc3 (by simp)
  have hcl := clone_bytes (some ⟨x, 0, none⟩) S c Bb w3 (hbr.keep hc3 (by simp)) (by omega)
  clear hsc
  go_wp2_with fail
  refine hcl.mono ?_
  rintro e w4 ⟨v4, rfl, ho4, hc4⟩
  obtain ⟨g4, c4, rfl, hg4, hgl4, hrow4⟩ := ho4.get (by omega)
  rw [hBl] at hrow4
  rw [hBl]
  have hL4 := hL3.nil hc4
  have hcw4 := hcw3.trans hc4 (by simp)
  clear hcl ho4 hbr hL2 hL3 hc3 hc4 hc2
  have hd1 : secsB R S (side * (n / 2) + a) 1 = Bb := by
    rw [secsB_succ, Nat.add_zero, HLE.out, HBb.out]
    rfl
  have hrow5 : w4.ownsRow w.heap.size 5 1 (.slice (some ⟨g4, 0, none⟩) S c4) (1 * S) (bvs (secsB R S (side * (n / 2) + a) 1)) := by
    rw [hd1, Nat.one_mul]
    exact own_rebase hrow4 (by intro y hy; have := hcw3.size; have := own_ge hrow4 y hy; omega)
  have HBL := Lib.hid hBl
  clear hrow4 hd1 hBl
  go_wp2_with fail
  go_loopw [12, 17] (fun bb iv wr => ∃ j : Nat, 1 ≤ j ∧ j ≤ k ∧ iv = .int .i64 ((a : Int) + (j : Int)) ∧ wr.ownsRow w.heap.size 5 1 bb (j * S) (bvs (secsB R S (side * (n / 2) + a) j)) ∧ Ch [] w wr) (fun _ iv _ => (a + k : Nat) - (intOf iv).toNat)
  case atStart => exact ⟨1, by omega, hkp, rfl, hrow5, hcw4⟩
  case round =>
    clear hrow5 hcw4
    obtain ⟨j, hj1, hj2, rfl, hrow, hch⟩ := hrel
    obtain ⟨wA, hwA⟩ : ∃ W, W = wr := ⟨_, rfl⟩
    subst hwA
    have hLA := h.nil hch
    have hkS2 : k * S ≤ 2048 * 4096 := Nat.mul_le_mul (by omega) (by omega)
    by_cases hlt : j < k
    · have hse := wsector_yes side (a + j) wA hLA hs (by omega)
      have hjS : (j + 1) * S ≤ k * S := Nat.mul_le_mul_right _ (by omega)
      have hjE : (j + 1) * S = j * S + S := by rw [Nat.add_mul, Nat.one_mul]
      have hdj := secsB_succ R S (side * (n / 2) + a) j
      rw [← Nat.add_assoc, Int.natCast_add] at hse
      have HDJ := Lib.hid hdj
      have HJE := Lib.hid hjE
      have hjb : j * S + S ≤ 2048 * 4096 := by omega
      clear hdj hjE hjS
      generalize hLj : R (side * (n / 2) + a + j) = Lj at *
      generalize hDj : secsB R S (side * (n / 2) + a) j = Dj at *
      generalize hjSe : j * S = p at *
      have HLJ := Lib.hid hLj
      have HDj := Lib.hid hDj
      have HPS := Lib.hid hjSe
      clear hLj hDj hjSe
      go_wp2_with fail
      refine hse.mono ?_
      rintro e w5 ⟨x5, c5, rfl, hx5, hxl5, hrow5, hc5⟩
      have hL5 := hLA.nil hc5
      have hz5 := wsize w5 hL5
      rw [HSE.out] at hz5
      obtain ⟨_, _, _, hcp1, hcp2, _⟩ := own_block hrow5
      unfold maxLen at hcp2
      have hSc5 : S ≤ c5 := by omega
      have hcw5 := hch.trans hc5 (by simp)
      have hs5 := hcw5.size
      have hrd5 := row_sub hrow5 0 S c5 (by omega) hSc5 (by unfold maxLen; omega)
      rw [List.drop_zero] at hrd5
      have hrow6 := own_keep hrow hc5 (by simp)
      clear hse hrow hrow5
      go_wp2_with fail
      refine hz5.mono ?_
      rintro e w' ⟨rfl, rfl⟩
      clear hz5
      go_wp2_with (first
        | (at_builtin; refine app_rd rfl (.tmp 89) (.tmp 96) 28 5 (.int .u8 0) 1 1 (by decide) rfl Try.underlying28 Try.info5 rfl _ _ _ (bvs (Lj.take S)) _ S c5 rfl rfl (bvs_one _) hrow6 hrd5 hs5 (by omega) (by unfold maxLen; omega) ?_; intro v6 w6 h6 hgr6 hat6; have hc6 := hcw5.grown hgr6 (fun y hy => .inr (own_ge hrow6 y hy)))
        | fail)
      have e1 : bvs (secsB R S (side * (n / 2) + a) (j + 1)) = bvs Dj ++ bvs (Lj.take S) := by rw [HDJ.out, bvs_append]
      have e2 : (j + 1) * S = p + S := HJE.out
      refine ⟨⟨j + 1, by omega, by omega, by go_num, by rw [e1, e2]; exact h6, hc6⟩, ?_⟩
      simp [intOf]
      omega
    · obtain rfl : j = k := by omega
      clear hlt hj2
      have hsd : side * (n / 2) ≤ n / 2 := by
        have : side * (n / 2) ≤ 1 * (n / 2) := Nat.mul_le_mul_right _ (by omega)
        omega
      have hdl : (secsB R S (side * (n / 2) + a) j).length = j * S := secsB_length R S _ j (fun i hi => by rw [h.live.len _ (by omega)]; omega)
      obtain ⟨Ab, cb, rfl⟩ := own_slice hrow
      have hrdb : RdB wA Ab (j * S) cb (secsB R S (side * (n / 2) + a) j) := own_rd hrow
      have hAbl : ∀ ad, Ab = some ad → ad.block < wA.heap.size := fun ad had => own_lt hrow ad.block (by rw [had]; rfl)
      obtain ⟨i0, hi0, hsz0⟩ := Option.map_eq_some_iff.1 Try.info5
      simp only [Prod.mk.injEq] at hsz0
      obtain ⟨Ar, hcut0, hrdr, hblr⟩ := cut_mid (P := Try.prog) 28 5 Try.underlying28 hi0 hsz0.2.1 Ab (j * S) cb 32 (32 + mq) (by omega) hkS hrdb.cap
      have hcutr : ∀ W, (Instr.slice 28 (.slice Ab (j * S) cb) (some (.int .i64 32)) (some (.int .i64 (32 + (mq : Int)))) none).run Try.prog W = .ok (.slice Ar (32 + mq - 32) (cb - 32)) W := by
        intro W
        have := hcut0 .i64 .i64 W
        rw [Int.natCast_add] at this
        exact this
      have hrd0 := hrdr wA _ hrdb
      rw [show 32 + mq - 32 = mq from by omega] at hrd0 hcutr
      have hAr : ∀ ad, Ar = some ad → ad.block < wA.heap.size := fun ad had => by
        obtain ⟨a1, h1, h2⟩ := hblr ad had
        rw [h2]
        exact hAbl a1 h1
      have hcm : IntKind.i64.wrap (mq : Int) = (mq : Int) := by rw [IntKind.wrap_i64]; omega
      have hfl := hrd0.length
      have hwA := hch.size
      have hdone : RowsO wA wA.heap.size (.slice none 0 0) [] := RowsO.empty _ _
      clear hrow hrdb hAbl hcut0 hrdr hblr hdl
      have HRD0 := Lib.hid hrd0
      have HFL := Lib.hid hfl
      clear hrd0 hfl
      generalize hfe : ((secsB R S (side * (n / 2) + a) j).drop 32).take mq = full at *
      have HFE := Lib.hid hfe
      clear hfe
      have hcrb := HRD0.out.cap
      go_wp2_with fail
      go_loopw [18, 19] (fun ov rv wr => ∃ (done : List (List UInt8)) (l : List UInt8) (A2 : Option Addr) (cc f : Nat), rv = .slice A2 l.length cc ∧ RdB wA A2 l.length cc l ∧ (∀ ad, A2 = some ad → ad.block < wA.heap.size) ∧ RowsO wr wA.heap.size ov done ∧ Ch [] wA wr ∧
          recsP (mq + 1) full = (recsP f l).map (done ++ ·) ∧ l.length < f ∧ done.length + l.length ≤ mq) (fun _ rv _ => match rv with | .slice _ q _ => q | _ => 0)
      case atStart => exact ⟨[], full, Ar, cb - 32, mq + 1, by rw [HFL.out], by rw [HFL.out]; exact HRD0.out, hAr, hdone, Ch.refl _ _, by simp, by rw [HFL.out]; omega, by rw [HFL.out]; simp⟩
      case round =>
        clear hdone hcutr hcm hAr HRD0 hcrb
        obtain ⟨done, l, A2, cc, f, rfl, hrl, hA2, hout, hch2, hrec, hlf, hdl⟩ := hrel
        obtain ⟨wB, hwB⟩ : ∃ W, W = wr := ⟨_, rfl⟩
        subst hwB
        obtain ⟨f, rfl⟩ : ∃ q, f = q + 1 := ⟨f - 1, by omega⟩
        have hcw := hch.trans hch2 (by simp)
        have hcap := hrl.cap
        have hcapm := hrl.max
        unfold maxLen at hcapm
        by_cases hl0 : l = []
        · subst hl0
          have hrec2 : recsP (mq + 1) full = some done := by rw [hrec]; simp [recsP]
          have HR2 := Lib.hid hrec2
          clear hrec hrec2
          go_wp2_with fail
          go_ret3
          refine ⟨hcw, ?_⟩
          rw [HOS.out, HR2.out]
          exact ⟨_, rfl, hout.rebase hwA⟩
        · have hlp : 0 < l.length := List.length_pos_iff.2 hl0
          have hgt : decide ((l.length : Int) > 0) = true := by simp; omega
          have hgt2 : decide (0 < l.length) = true := by simp; omega
          have hrn : ∀ {r : Option (List (List UInt8))}, recsP (f + 1) l = r → r = none → openF R n sz side a xq = none := by
            intro r h1 h2
            rw [HOS.out, hrec, h1, h2]
            rfl
          by_cases hl4 : l.length < 4
          · have hno := hrn rfl (by simp [recsP, hl0, hl4])
            have hge : decide ((l.length : Int) ≥ 4) = false := by simp; omega
            have HNO := Lib.hid hno
            clear hno hrn hrec
            go_wp2_with fail
            refine (wmust_no _).mono ?_
            rintro e w' ⟨rfl, rfl⟩
            exact ⟨rfl, open_none HNO.out hcw⟩
          · have hge : decide ((l.length : Int) ≥ 4) = true := by simp; omega
            obtain ⟨A4, hcut4, hrd4⟩ := cut_to (P := Try.prog) 28 5 Try.underlying28 hi0 hsz0.2.1 A2 l.length cc 4 (by omega) hcap
            rw [show ((4 : Nat) : Int) = 4 from rfl] at hcut4
            have hr4 := hrd4 wB _ (hrl.keep hch2 (by simp))
            rw [bvs_take] at hr4
            have hg4 := get_any A4 4 cc (l.take 4) wB hr4 (by omega)
            have hqb : deN (l.take 4) < 4294967296 := by
              have h4 := deN_lt (l.take 4)
              have h5 : (l.take 4).length = 4 := by rw [List.length_take]; omega
              rw [h5] at h4
              exact h4
            have hrecS : recsP (f + 1) l = if deN (l.take 4) ≤ l.length - 4 then (recsP f (l.drop (4 + deN (l.take 4)))).map (((l.drop 4).take (deN (l.take 4))) :: ·) else none := by
              simp only [recsP, hl0, hl4, if_false]
            generalize hqe : deN (l.take 4) = q at *
            have hwl : IntKind.u64.wrap ((l.length : Int) - 4) = (l.length : Int) - 4 := by rw [IntKind.wrap_u64]; omega
            by_cases hq : ¬ q ≤ l.length - 4
            · have hno := hrn rfl (by rw [hrecS, if_neg hq])
              have hle : decide ((q : Int) ≤ (l.length : Int) - 4) = false := by simp; omega
              have HNO := Lib.hid hno
              clear hno hrn hrec hrecS hqe hrd4
              go_wp2_with fail
              refine (wmust_yes _ _).mono ?_
              rintro e w' ⟨rfl, rfl⟩
              go_wp2_with fail
              refine hg4.mono ?_
              rintro e w' ⟨rfl, rfl⟩
              go_wp2_with fail
              refine (wmust_no _).mono ?_
              rintro e w' ⟨rfl, rfl⟩
              exact ⟨rfl, open_none HNO.out hcw⟩
            · have hq2 : q + 4 ≤ l.length := by omega
              have hle : decide ((q : Int) ≤ (l.length : Int) - 4) = true := by simp; omega
              have hrec2 : recsP (mq + 1) full = (recsP f (l.drop (4 + q))).map ((done ++ [(l.drop 4).take q]) ++ ·) := by
                rw [hrec, hrecS, if_pos (by omega), Option.map_map]
                congr 1
                funext z
                simp
              obtain ⟨Am, hcutm, hrdm, hblm⟩ := cut_mid (P := Try.prog) 28 5 Try.underlying28 hi0 hsz0.2.1 A2 l.length cc 4 (4 + q) (by omega) (by omega) hcap
              have hcutm' : ∀ W, (Instr.slice 28 (.slice A2 l.length cc) (some (.int .i64 4)) (some (.int .u64 (4 + (q : Int)))) none).run Try.prog W = .ok (.slice Am (4 + q - 4) (cc - 4)) W := by
                intro W
                have := hcutm .i64 .u64 W
                rw [Int.natCast_add] at this
                exact this
              obtain ⟨Af, hcutf, hrdf, hblf⟩ := cut_from (P := Try.prog) 28 5 Try.underlying28 hi0 hsz0.2.1 A2 l.length cc (4 + q) (by omega)
              have hcutf' : ∀ W, (Instr.slice 28 (.slice A2 l.length cc) (some (.int .u64 (4 + (q : Int)))) none none).run Try.prog W = .ok (.slice Af (l.length - (4 + q)) (cc - (4 + q))) W := by
                intro W
                have := hcutf .u64 W
                rw [Int.natCast_add] at this
                exact this
              have hrm := hrdm wB _ (hrl.keep hch2 (by simp))
              have hrf := hrdf wA _ hrl
              rw [Nat.mul_one, bvs_drop] at hrf
              have hAf : ∀ ad, Af = some ad → ad.block < wA.heap.size := fun ad had => by
                obtain ⟨a1, h1, h2⟩ := hblf ad had
                rw [h2]
                exact hA2 a1 h1
              rw [show 4 + q - 4 = q from by omega] at hrm hcutm'
              have hcl := clone_bytes Am q (cc - 4) ((l.drop 4).take q) wB hrm (by omega)
              have hdlen : (l.drop (4 + q)).length = l.length - (4 + q) := List.length_drop
              have HREC := Lib.hid hrec2
              have HDL := Lib.hid hdlen
              have HRF := Lib.hid hrf
              clear hrn hrec hrecS hqe hrd4 hrec2 hcutm hcutf hrdm hrdf hblm hblf hrf hdlen hr4
              go_wp2_with fail
              refine (wmust_yes _ _).mono ?_
              rintro e w' ⟨rfl, rfl⟩
              go_wp2_with fail
              refine hg4.mono ?_
              rintro e w' ⟨rfl, rfl⟩
              go_wp2_with fail
              refine (wmust_yes _ _).mono ?_
              rintro e w' ⟨rfl, rfl⟩
              go_wp2_with fail
              refine hcl.mono ?_
              rintro e w7 ⟨v7, rfl, ho7, hc7⟩
              have hch7 := hch2.trans hc7 (by simp)
              have hs7 := hch7.size
              obtain ⟨vs0, hv0, _⟩ := id hout
              obtain ⟨Ao, co, rfl⟩ := own_slice hv0
              have hrow7 := ho7.row (fun y hy => own_lt hv0 y hy) wA.heap.size hch2.size
              obtain ⟨vs, hvs1, hvs2⟩ := hout.nil hc7
              have hvl : vs.length = done.length := by have := hvs1.1; simpa using this
              have hrows : ∀ (i : Nat) (h : i < [(l.drop 4).take q].length), ∃ u, [v7][i]? = some u ∧ RowO w7 wA.heap.size (.slice Ao done.length co) u [(l.drop 4).take q][i] := by
                intro i hi
                obtain rfl : i = 0 := by simp at hi; omega
                exact ⟨v7, rfl, hrow7⟩
              obtain ⟨A7, n7, c7, e7, _⟩ := id hrow7
              subst e7
              have HROWS := Lib.hid hrows
              have HVS2 := Lib.hid hvs2
              have HVL := Lib.hid hvl
              clear hcl ho7 hrow7 hrows hvs2 hvl hv0 hout
              go_wp2_with (first
                | (at_builtin; refine app_one rfl (.tmp 120) (.tmp 126) 64 28 (.slice none 0 0) 24 rfl Try.underlying64 Try.info28 rfl _ _ vs _ rfl rfl rfl hvs1 hs7 (by omega) (by unfold maxLen; omega) ?_; intro v8 w8 h8 hgr8 hat8; have hc8 := hch7.grown hgr8 (fun y hy => .inr (own_ge hvs1 y hy)))
                | fail)
              have hfin := RowsO.app HVS2.out HVL.out HROWS.out h8 hgr8 hat8 hs7
              refine ⟨⟨done ++ [(l.drop 4).take q], l.drop (4 + q), Af, cc - (4 + q), f, by rw [HDL.out], by rw [HDL.out]; exact HRF.out, hAf, hfin, hc8, HREC.out, by rw [HDL.out]; omega, by rw [HDL.out, List.length_append]; simp; omega⟩, ?_⟩
              simp
              omega
end

end Go.Proofs.Ytbkncfedahifkaa
