/-
  Package latch: Open, Try.
-/
import Derived.Test.YtbkncfedahifkaaGreatLatch
import Derived.Test.YtbkncfedahifkaaGreatPDisk
set_option linter.unusedVariables false
set_option linter.unusedSimpArgs false
namespace Go.Proofs.YtbkncfedahifkaaGreat
open Go.RowKit Go.Maps Go.Sort Go.Shelf

theorem kEH : kH ≠ kE := by decide
/-- What the writes do to what is noted. -/
def pE (n : Nat) : PairL := ⟨kE, encN n, false⟩
def pH (o e : Int) : PairL := ⟨kH, encs [zz o, zz e], false⟩
def pG : PairL := ⟨kH, [], true⟩
theorem epoch_new {D : Mp} (h : IsMap D) (n : Nat) (hn : n ≠ 0) : EpochOf (chgs D [pE n]) n := by
  show getL (D.put (skey kE) _) kE = _
  rw [if_neg hn]
  exact getL_put_same h kE _
theorem noted_epoch {D : Mp} {x : Option (Int × Int)} (n : Nat) (h : Noted D x) : Noted (chgs D [pE n]) x := by
  have h1 : has (chgs D [pE n]) (skey kH) = has D (skey kH) := has_put_other (skey_ne kEH) _
  have h2 : getL (chgs D [pE n]) kH = getL D kH := getL_put_other kEH _
  cases x with
  | none => exact ⟨by rw [h1]; exact h.1, by rw [h2]; exact h.2⟩
  | some p => exact ⟨by rw [h1]; exact h.1, by rw [h2]; exact h.2⟩
theorem epoch_hold {D : Mp} {n : Nat} (o e : Int) (h : EpochOf D n) : EpochOf (chgs D [pH o e]) n := by
  have h2 : getL (chgs D [pH o e]) kE = getL D kE := getL_put_other (fun h => kEH h.symm) _
  unfold EpochOf
  rw [h2]
  exact h
theorem noted_hold {D : Mp} (h : IsMap D) (o e : Int) : Noted (chgs D [pH o e]) (some (o, e)) :=
  ⟨has_put_same h (by trivial) _, getL_put_same h kH _⟩
theorem epoch_gone {D : Mp} {n : Nat} (h : EpochOf D n) : EpochOf (chgs D [pG]) n := by
  have h2 : getL (chgs D [pG]) kE = getL D kE := getL_del_other (fun h => kEH h.symm)
  unfold EpochOf
  rw [h2]
  exact h
theorem noted_gone (D : Mp) : Noted (chgs D [pG]) none := ⟨has_del_same, getL_del_same kH⟩
theorem i64_ok {x : Int} (h : 0 ≤ x ∧ x ≤ 100000) : -9223372036854775808 ≤ x ∧ x ≤ 9223372036854775807 := by omega
theorem pE_ok (n : Nat) (h : n ≤ 100000) : ∀ q ∈ [pE n], q.ok ∧ q.k.length ≤ 8 ∧ q.v.length ≤ 20 := by
  intro q hq
  rw [List.mem_singleton] at hq
  subst hq
  have := encN_len10 (n := n) (by omega)
  have hk : (pE n).k.length = 7 := rfl
  have hv : (pE n).v.length ≤ 10 := this
  exact ⟨⟨by omega, by omega⟩, by omega, by omega⟩
theorem pH_ok (o e : Int) (ho : -9223372036854775808 ≤ o ∧ o ≤ 9223372036854775807) (he : -9223372036854775808 ≤ e ∧ e ≤ 9223372036854775807) : ∀ q ∈ [pH o e], q.ok ∧ q.k.length ≤ 8 ∧ q.v.length ≤ 20 := by
  intro q hq
  rw [List.mem_singleton] at hq
  subst hq
  have hk : (pH o e).k.length = 8 := rfl
  have hv : (pH o e).v.length ≤ 20 := by
    have := encs_len [zz o, zz e] (by
      intro x hx
      simp only [List.mem_cons, List.not_mem_nil, or_false] at hx
      rcases hx with rfl | rfl
      · exact zz_lt ho.1 ho.2
      · exact zz_lt he.1 he.2)
    have h20 : (encs [zz o, zz e]).length ≤ 20 := by simpa using this
    exact h20
  exact ⟨⟨by omega, by omega⟩, by omega, by omega⟩
theorem rd_two (w : World) (p q : Int) : Rd 1 (w.alloc (.cells #[.int .i64 p, .int .i64 q] 2)) (some ⟨w.heap.size, 0, none⟩) 2 2 (i64s [p, q]) :=
  own_rd (World.ownsRow_lit (base := 0) w #[.int .i64 p, .int .i64 q] 2 (Nat.zero_le _) (by simp [maxLen]) rfl)

section
variable {sb lb um b g m n turn a : Nat} {X : List Nat} {D : Mp}
set_option maxRecDepth 100000 in
set_option maxHeartbeats 2000000 in
theorem lopen_any (x : Nat) (w : World) (h : StoreS w sb lb um b g m X n 512 turn a D) (hX : ∀ x ∈ X, x < w.heap.size) (he : EpochOf D x) (hx : x ≤ 90000) (ht : turn < 4611686018427387904) (hf : a < n / 2) :
    Calls Tryz.prog 27 #[.pointer (some ⟨sb, 0, none⟩)] w fun e w' => ∃ y a', e = .returned (.tuple #[.pointer (some ⟨y, 0, none⟩), .int .i64 0]) ∧ w.heap.size ≤ y ∧ IsLt w' y sb ((x + 1 : Nat) : Int) 0 false ∧
      StoreS w' sb lb um b g m (y :: X) n 512 turn a' (chgs D [pE (x + 1)]) ∧ a' ≤ a + 1 ∧ Ch [sb, lb, um, b, g, m] w w' := by
  have hnum := lnumber_any x w h he (by omega)
  have hsb := h.out
  have hw1 : IntKind.u64.wrap ((x + 1 : Nat) : Int) = ((x + 1 : Nat) : Int) := by rw [IntKind.wrap_u64]; omega
  have hok := pE_ok (x + 1) (by omega)
  obtain ⟨x1, hx1⟩ : ∃ x1 : Nat, x1 = x + 1 := ⟨_, rfl⟩
  rw [← hx1] at hw1 hok ⊢
  have hxx : (x : Int) + 1 = (x1 : Int) := by omega
  have hx1b : x1 ≤ 100000 := by omega
  have hmin : min (x : Int) 9223372036854775806 = (x : Int) := by omega
  have HX1 := Lib.hid hx1
  clear hx1
  go_enter Tryz.func27, Tryz.ntmps27
  go_wp2_with fail
  refine hnum.mono ?_
  rintro e w1 ⟨rfl, hc1⟩
  clear hnum
  go_wp2_with fail
  refine (new_wr w1).mono ?_
  rintro e w2 ⟨wb, rfl, hw2, hb2, hc2⟩
  go_wp2_with fail
  refine (wnum wb none [] _ 1 1 [x1] _ (hw2.alloc _) (rd_one w2 (.int .u64 (x1 : Int)) 127) (by simp; omega) (by simp) hw2.fresh).mono ?_
  rintro e w3 ⟨rfl, hst3⟩
  obtain ⟨o3, hw3, ho3, hc3⟩ := hst3.own hb2 (by simp) (hc2.alloc _)
  rw [List.nil_append, encs_one] at hw3
  clear hst3 hw2
  have hl10 := encN_len10 (n := x1) (by omega)
  go_wp2_with fail
  refine (wbytes wb o3 _ w3 hw3 (by omega)).mono ?_
  rintro e w4 ⟨v4, rfl, ⟨A4, c4, rfl, ho4⟩, hc4⟩
  have hcv := conv_str (own_rd ho4) 45 5 9 Tryz.underlying45 Tryz.underlying5 Tryz.underlying9
  have hcw4 : Ch [] w w4 := (hc1.trans hc3 (by simp)).trans hc4 (by simp)
  have hcX : Ch [] w4 (w4.alloc (.cells #[.string (str kE), .string (str (encN x1)), .bool false] 32)) := (Ch.refl [] w4).alloc _
  have hbX := heap_alloc_new w4 (.cells #[.string (str kE), .string (str (encN x1)), .bool false] 32)
  have hcwX := hcw4.trans hcX (by simp)
  have hzX := hcwX.size
  have ha := stapply_any (some ⟨w4.heap.size, 0, none⟩) 1 1 [pE x1] _ (h.nil hcwX) (by intro z hz; have := hX z hz; omega) (pairs_one (p := pE x1) hbX) rfl (by omega) (fun q hq => (hok q hq).1) ht (commitP_fit n 512 a 8 20 [pE x1] hok (by omega) (by simp only [List.length_cons, List.length_nil]; omega))
  have hlen := lenP_le 512 8 20 1 [pE x1] hok (by omega) (by simp)
  have HLE := Lib.hid hlen
  clear hlen hok hbX hc1 hc2 hc3 hc4
  go_wp2_with fail
  refine ha.mono ?_
  rintro e w5 ⟨rfl, hs5, hc5⟩
  clear ha
  have hcw5 := (hcwX.mono (G := [sb, lb, um, b, g, m]) (by simp)).trans hc5 (fun y hy => .inl hy)
  go_wp2_with fail
  go_ret2
  have hcY : Ch [] w5 (w5.alloc (.cells #[.pointer (some ⟨sb, 0, none⟩), .int .i64 (x1 : Int), .int .i64 0, .bool false] 130)) := (Ch.refl [] w5).alloc _
  refine ⟨_, _, rfl, ?_, heap_alloc_new w5 _, (hs5.add (Nat.le_refl _)).nil hcY, by have := HLE.out; omega, hcw5.trans hcY (by simp)⟩
  exact hcw5.size

set_option maxRecDepth 100000 in
set_option maxHeartbeats 2000000 in
theorem ltry_no (y : Nat) (ep ow q : Int) (w : World) (h : StoreS w sb lb um b g m X n 512 turn a D) (hl : IsLt w y sb ep ow true) (hn : Noted D (some (ow, ep))) (how : -9223372036854775808 ≤ ow ∧ ow ≤ 9223372036854775807) (hep : -9223372036854775808 ≤ ep ∧ ep ≤ 9223372036854775807) :
    Calls Tryz.prog 28 #[.pointer (some ⟨y, 0, none⟩), .int .i64 q] w fun e w' => e = .returned (.tuple #[.bool false, .int .i64 0]) ∧ Ch [] w w' := by
  have hh := lholder_yes ow ep y ep ow true w h hl hn how hep
  go_enter Tryz.func28, Tryz.ntmps28
  go_wp2_with fail
  refine hh.mono ?_
  rintro e w1 ⟨rfl, hc1⟩
  have hl1 := hl.keep hc1 (by simp)
  have c1 := cell_at hl1 1 rfl
  have c2 := cell_at hl1 2 rfl
  have c3 := cell_at hl1 3 rfl
  go_wp2_with fail
  go_ret2
  exact ⟨rfl, hc1⟩

set_option maxRecDepth 100000 in
set_option maxHeartbeats 4000000 in
theorem ltry_yes (x : Option (Int × Int)) (y : Nat) (ep ow q : Int) (hd : Bool) (w : World) (h : StoreS w sb lb um b g m X n 512 turn a D) (hl : IsLt w y sb ep ow hd) (hn : Noted D x) (hno : ¬ (hd = true ∧ x = some (ow, ep)))
    (hxb : ∀ o e, x = some (o, e) → (-9223372036854775808 ≤ o ∧ o ≤ 9223372036854775807) ∧ (-9223372036854775808 ≤ e ∧ e ≤ 9223372036854775807)) (hep : -9223372036854775808 ≤ ep ∧ ep ≤ 9223372036854775807) (hq : -9223372036854775808 ≤ q ∧ q ≤ 9223372036854775807)
    (hX : ∀ x ∈ X, x < w.heap.size) (hy : y ∈ X) (ht : turn < 4611686018427387904) (hf : a < n / 2) (hyn : y ≠ sb ∧ y ≠ lb ∧ y ≠ um ∧ y ≠ b ∧ y ≠ g ∧ y ≠ m) :
    Calls Tryz.prog 28 #[.pointer (some ⟨y, 0, none⟩), .int .i64 q] w fun e w' => e = .returned (.tuple #[.bool true, .int .i64 0]) ∧ IsLt w' y sb ep q true ∧
      ∃ a', StoreS w' sb lb um b g m X n 512 turn a' (chgs D [pH q ep]) ∧ a' ≤ a + 1 ∧ Ch [sb, lb, um, b, g, m, y] w w' := by
  have hok := pH_ok q ep hq hep
  go_enter Tryz.func28, Tryz.ntmps28
  rcases x with _ | ⟨o, e0⟩
  · have hh := lholder_no y ep ow hd w h hl hn
    go_wp2_with fail
    refine hh.mono ?_
    rintro e wA ⟨rfl, hcA⟩
    clear hh
    have hlA := hl.keep hcA (by simp)
    go_wp2_with fail
    refine dr_begin (by kernel_rfl) ?_
    refine dr_more (fun W => IsLt W y sb ep ow hd) ?_
    have hT : True ∧ (IsLt wA.drew y sb ep ow hd) := ⟨trivial, hlA.keep (Ch.refl [] wA).drew (by simp)⟩
    refine dr_take 0 (some 39) (v := ?_) rfl rfl (by kernel_rfl) (by kernel_rfl) (by kernel_rfl) (fun _ _ _ h => h) rfl hT (fun W _ => ?_) ?_
    rotate_left
    · (go_simp; try with_reducible rfl)
    try simp only [Act.put, List.setIfInBounds_toArray, List.set_cons_zero, List.set_cons_succ]
    refine dr_take 1 (some 40) (v := ?_) rfl rfl (by kernel_rfl) (by kernel_rfl) (by kernel_rfl) (fun _ _ _ h => h) rfl hT (fun W _ => ?_) ?_
    rotate_left
    · (go_simp; try with_reducible rfl)
    try simp only [Act.put, List.setIfInBounds_toArray, List.set_cons_zero, List.set_cons_succ]
    refine dr_take 2 (some 41) (v := ?_) rfl rfl (by kernel_rfl) (by kernel_rfl) (by kernel_rfl) (fun _ _ _ h => h) rfl hT (fun W _ => ?_) ?_
    rotate_left
    · (go_simp; try with_reducible rfl)
    try simp only [Act.put, List.setIfInBounds_toArray, List.set_cons_zero, List.set_cons_succ]
    refine dr_take 3 (some 42) (v := ?_) rfl rfl (by kernel_rfl) (by kernel_rfl) (by kernel_rfl) (fun _ _ _ h => h) rfl hT (fun W hW => ?_) ?_
    rotate_left
    · (have h0 := cell_at hW.2 0 rfl; go_simp; try with_reducible rfl)
    try simp only [Act.put, List.setIfInBounds_toArray, List.set_cons_zero, List.set_cons_succ]
    refine dr_take 4 (some 43) (v := ?_) rfl rfl (by kernel_rfl) (by kernel_rfl) (by kernel_rfl) (fun _ _ _ h => h) rfl hT (fun W _ => ?_) ?_
    rotate_left
    · (go_simp; try with_reducible rfl)
    try simp only [Act.put, List.setIfInBounds_toArray, List.set_cons_zero, List.set_cons_succ]
    refine dr_take 5 (some 44) (v := ?_) rfl rfl (by kernel_rfl) (by kernel_rfl) (by kernel_rfl) (fun _ _ _ h => h) rfl hT (fun W _ => ?_) ?_
    rotate_left
    · (go_simp; try with_reducible rfl)
    try simp only [Act.put, List.setIfInBounds_toArray, List.set_cons_zero, List.set_cons_succ]
    refine dr_take 6 (some 45) (v := ?_) rfl rfl (by kernel_rfl) (by kernel_rfl) (by kernel_rfl) (fun _ _ _ h => h) rfl hT (fun W _ => ?_) ?_
    rotate_left
    · (go_simp; try with_reducible rfl)
    try simp only [Act.put, List.setIfInBounds_toArray, List.set_cons_zero, List.set_cons_succ]
    refine dr_take 7 (some 46) (v := ?_) rfl rfl (by kernel_rfl) (by kernel_rfl) (by kernel_rfl) (fun _ _ _ h => h) rfl hT (fun W _ => ?_) ?_
    rotate_left
    · (go_simp; try with_reducible rfl)
    try simp only [Act.put, List.setIfInBounds_toArray, List.set_cons_zero, List.set_cons_succ]
    refine dr_take 8 (some 47) (v := ?_) rfl rfl (by kernel_rfl) (by kernel_rfl) (by kernel_rfl) (fun _ _ _ h => h) rfl hT (fun W hW => ?_) ?_
    rotate_left
    · (have h0 := cell_at hW.2 1 rfl; go_simp; try with_reducible rfl)
    try simp only [Act.put, List.setIfInBounds_toArray, List.set_cons_zero, List.set_cons_succ]
    refine dr_step 9 rfl (by kernel_rfl) rfl (fun K hK => ?_)
    go_simp
    have hcX : Ch [] wA (wA.alloc (.cells #[.int .i64 q, .int .i64 ep] 2)).drew := ((Ch.refl [] wA).alloc _).drew
    have hrX := (rd_two wA q ep).keep (Ch.refl [] _).drew (by simp)
    generalize (wA.alloc (.cells #[.int .i64 q, .int .i64 ep] 2)).drew = w0 at *
    refine hK _ _ ⟨trivial, hlA.keep hcX (by simp)⟩ ?_
    have hT : True ∧ (IsLt w0 y sb ep ow hd) := ⟨trivial, hlA.keep hcX (by simp)⟩
    clear hK K
    try simp only [Act.put, List.setIfInBounds_toArray, List.set_cons_zero, List.set_cons_succ]
    refine dr_step 10 rfl (by kernel_rfl) rfl (fun K hK => ?_)
    go_simp
    refine (ltext_any q ep _ 2 w0 hrX hq hep).mono ?_
    rintro e w2 ⟨rfl, hc2⟩
    have hcw := hcX.trans hc2 (by simp)
    refine hK _ _ ⟨trivial, hlA.keep hcw (by simp)⟩ ?_
    have hT : True ∧ (IsLt w2 y sb ep ow hd) := ⟨trivial, hlA.keep hcw (by simp)⟩
    clear hK K
    try simp only [Act.put, List.setIfInBounds_toArray, List.set_cons_zero, List.set_cons_succ]
    refine dr_take 11 (some 50) (v := ?_) rfl rfl (by kernel_rfl) (by kernel_rfl) (by kernel_rfl) (fun _ _ _ h => h) rfl hT (fun W _ => ?_) ?_
    rotate_left
    · (go_simp; try with_reducible rfl)
    try simp only [Act.put, List.setIfInBounds_toArray, List.set_cons_zero, List.set_cons_succ]
    refine dr_step 12 rfl (by kernel_rfl) rfl (fun K hK => ?_)
    go_simp
    have hcY := hcw.alloc (.cells #[.string ⟨#[108, 47, 104, 111, 108, 100, 101, 114]⟩, .string (str (encs [zz q, zz ep])), .bool false] 32)
    have hbY := heap_alloc_new w2 (.cells #[.string ⟨#[108, 47, 104, 111, 108, 100, 101, 114]⟩, .string (str (encs [zz q, zz ep])), .bool false] 32)
    generalize hw3 : w2.alloc (.cells #[.string ⟨#[108, 47, 104, 111, 108, 100, 101, 114]⟩, .string (str (encs [zz q, zz ep])), .bool false] 32) = w3 at *
    refine hK _ _ ⟨trivial, hlA.keep hcY (by simp)⟩ ?_
    have hT : True ∧ (IsLt w3 y sb ep ow hd) := ⟨trivial, hlA.keep hcY (by simp)⟩
    clear hK K hw3
    try simp only [Act.put, List.setIfInBounds_toArray, List.set_cons_zero, List.set_cons_succ]
    refine dr_step 13 rfl (by kernel_rfl) rfl (fun K hK => ?_)
    go_simp
    have hcwY := hcA.trans hcY (by simp)
    have hzY := hcwY.size
    have ha := stapply_any (some ⟨w2.heap.size, 0, none⟩) 1 1 [pH q ep] w3 (h.nil hcwY) (by intro z hz; have := hX z hz; omega) (pairs_one (p := pH q ep) hbY) rfl (by omega) (fun q hq => (hok q hq).1) ht (commitP_fit n 512 a 8 20 [pH q ep] hok (by omega) (by simp only [List.length_cons, List.length_nil]; omega))
    have hlen := lenP_le 512 8 20 1 [pH q ep] hok (by omega) (by simp)
    refine ha.mono ?_
    rintro e w5 ⟨rfl, hs5, hc5⟩
    have hl5 : IsLt w5 y sb ep ow hd := (hlA.keep hcY (by simp)).keep hc5 (by simp; omega)
    refine hK _ _ ⟨trivial, hl5⟩ ?_
    have hT : True ∧ (IsLt w5 y sb ep ow hd) := ⟨trivial, hl5⟩
    clear hK K ha
    try simp only [Act.put, List.setIfInBounds_toArray, List.set_cons_zero, List.set_cons_succ]
    refine dr_take 14 (some 9) (v := ?_) rfl rfl (by kernel_rfl) (by kernel_rfl) (by kernel_rfl) (fun _ _ _ h => h) rfl hT (fun W _ => ?_) ?_
    rotate_left
    · (go_simp; try with_reducible rfl)
    try simp only [Act.put, List.setIfInBounds_toArray, List.set_cons_zero, List.set_cons_succ]
    refine dr_done (by kernel_rfl) ?_
    have f2 := free_at hl5 2
    have f3 := free_at hl5 3
    have d2 := cell_at hl5 2 rfl
    have d3 := cell_at hl5 3 rfl
    clear hT
    have hHL := Lib.hid hlen
    clear hlen hok
    go_wp2_with fail
    go_ret2
    have hl6 := heap_setCell_same _ y 3 _ 130 (.bool true) (heap_setCell_same w5 y 2 _ 130 (.int .i64 q) hl5)
    have hc6 : Ch [y] w5 ((w5.setCell ⟨y, 2, none⟩ (.int .i64 q)).setCell ⟨y, 3, none⟩ (.bool true)) := ((Ch.refl [y] w5).setCell _ _ (by simp)).setCell _ _ (by simp)
    refine ⟨rfl, hl6, _, hs5.keep (hc6.mono (by simp [hy])), by have := hHL.out; omega, ?_⟩
    exact ((hcwY.mono (G := [sb, lb, um, b, g, m, y]) (by simp)).trans hc5 (by intro z hz; left; simp only [List.mem_cons, List.not_mem_nil, or_false] at hz ⊢; omega)).trans hc6 (by intro z hz; left; simp only [List.mem_cons, List.not_mem_nil, or_false] at hz ⊢; omega)
  · obtain ⟨hob, heb⟩ := hxb o e0 rfl
    have hh := lholder_yes o e0 y ep ow hd w h hl hn hob heb
    go_wp2_with fail
    refine hh.mono ?_
    rintro e wA ⟨rfl, hcA⟩
    clear hh
    have hlA := hl.keep hcA (by simp)
    have c1 := cell_at hlA 1 rfl
    have c2 := cell_at hlA 2 rfl
    have c3 := cell_at hlA 3 rfl
    rcases hd with _ | _
    · go_wp2_with fail
      refine dr_begin (by kernel_rfl) ?_
      refine dr_more (fun W => IsLt W y sb ep ow false) ?_
      have hT : True ∧ (IsLt wA.drew y sb ep ow false) := ⟨trivial, hlA.keep (Ch.refl [] wA).drew (by simp)⟩
      refine dr_take 0 (some 39) (v := ?_) rfl rfl (by kernel_rfl) (by kernel_rfl) (by kernel_rfl) (fun _ _ _ h => h) rfl hT (fun W _ => ?_) ?_
      rotate_left
      · (go_simp; try with_reducible rfl)
      try simp only [Act.put, List.setIfInBounds_toArray, List.set_cons_zero, List.set_cons_succ]
      refine dr_take 1 (some 40) (v := ?_) rfl rfl (by kernel_rfl) (by kernel_rfl) (by kernel_rfl) (fun _ _ _ h => h) rfl hT (fun W _ => ?_) ?_
      rotate_left
      · (go_simp; try with_reducible rfl)
      try simp only [Act.put, List.setIfInBounds_toArray, List.set_cons_zero, List.set_cons_succ]
      refine dr_take 2 (some 41) (v := ?_) rfl rfl (by kernel_rfl) (by kernel_rfl) (by kernel_rfl) (fun _ _ _ h => h) rfl hT (fun W _ => ?_) ?_
      rotate_left
      · (go_simp; try with_reducible rfl)
      try simp only [Act.put, List.setIfInBounds_toArray, List.set_cons_zero, List.set_cons_succ]
      refine dr_take 3 (some 42) (v := ?_) rfl rfl (by kernel_rfl) (by kernel_rfl) (by kernel_rfl) (fun _ _ _ h => h) rfl hT (fun W hW => ?_) ?_
      rotate_left
      · (have h0 := cell_at hW.2 0 rfl; go_simp; try with_reducible rfl)
      try simp only [Act.put, List.setIfInBounds_toArray, List.set_cons_zero, List.set_cons_succ]
      refine dr_take 4 (some 43) (v := ?_) rfl rfl (by kernel_rfl) (by kernel_rfl) (by kernel_rfl) (fun _ _ _ h => h) rfl hT (fun W _ => ?_) ?_
      rotate_left
      · (go_simp; try with_reducible rfl)
      try simp only [Act.put, List.setIfInBounds_toArray, List.set_cons_zero, List.set_cons_succ]
      refine dr_take 5 (some 44) (v := ?_) rfl rfl (by kernel_rfl) (by kernel_rfl) (by kernel_rfl) (fun _ _ _ h => h) rfl hT (fun W _ => ?_) ?_
      rotate_left
      · (go_simp; try with_reducible rfl)
      try simp only [Act.put, List.setIfInBounds_toArray, List.set_cons_zero, List.set_cons_succ]
      refine dr_take 6 (some 45) (v := ?_) rfl rfl (by kernel_rfl) (by kernel_rfl) (by kernel_rfl) (fun _ _ _ h => h) rfl hT (fun W _ => ?_) ?_
      rotate_left
      · (go_simp; try with_reducible rfl)
      try simp only [Act.put, List.setIfInBounds_toArray, List.set_cons_zero, List.set_cons_succ]
      refine dr_take 7 (some 46) (v := ?_) rfl rfl (by kernel_rfl) (by kernel_rfl) (by kernel_rfl) (fun _ _ _ h => h) rfl hT (fun W _ => ?_) ?_
      rotate_left
      · (go_simp; try with_reducible rfl)
      try simp only [Act.put, List.setIfInBounds_toArray, List.set_cons_zero, List.set_cons_succ]
      refine dr_take 8 (some 47) (v := ?_) rfl rfl (by kernel_rfl) (by kernel_rfl) (by kernel_rfl) (fun _ _ _ h => h) rfl hT (fun W hW => ?_) ?_
      rotate_left
      · (have h0 := cell_at hW.2 1 rfl; go_simp; try with_reducible rfl)
      try simp only [Act.put, List.setIfInBounds_toArray, List.set_cons_zero, List.set_cons_succ]
      refine dr_step 9 rfl (by kernel_rfl) rfl (fun K hK => ?_)
      go_simp
      have hcX : Ch [] wA (wA.alloc (.cells #[.int .i64 q, .int .i64 ep] 2)).drew := ((Ch.refl [] wA).alloc _).drew
      have hrX := (rd_two wA q ep).keep (Ch.refl [] _).drew (by simp)
      generalize (wA.alloc (.cells #[.int .i64 q, .int .i64 ep] 2)).drew = w0 at *
      refine hK _ _ ⟨trivial, hlA.keep hcX (by simp)⟩ ?_
      have hT : True ∧ (IsLt w0 y sb ep ow false) := ⟨trivial, hlA.keep hcX (by simp)⟩
      clear hK K
      try simp only [Act.put, List.setIfInBounds_toArray, List.set_cons_zero, List.set_cons_succ]
      refine dr_step 10 rfl (by kernel_rfl) rfl (fun K hK => ?_)
      go_simp
      refine (ltext_any q ep _ 2 w0 hrX hq hep).mono ?_
      rintro e w2 ⟨rfl, hc2⟩
      have hcw := hcX.trans hc2 (by simp)
      refine hK _ _ ⟨trivial, hlA.keep hcw (by simp)⟩ ?_
      have hT : True ∧ (IsLt w2 y sb ep ow false) := ⟨trivial, hlA.keep hcw (by simp)⟩
      clear hK K
      try simp only [Act.put, List.setIfInBounds_toArray, List.set_cons_zero, List.set_cons_succ]
      refine dr_take 11 (some 50) (v := ?_) rfl rfl (by kernel_rfl) (by kernel_rfl) (by kernel_rfl) (fun _ _ _ h => h) rfl hT (fun W _ => ?_) ?_
      rotate_left
      · (go_simp; try with_reducible rfl)
      try simp only [Act.put, List.setIfInBounds_toArray, List.set_cons_zero, List.set_cons_succ]
      refine dr_step 12 rfl (by kernel_rfl) rfl (fun K hK => ?_)
      go_simp
      have hcY := hcw.alloc (.cells #[.string ⟨#[108, 47, 104, 111, 108, 100, 101, 114]⟩, .string (str (encs [zz q, zz ep])), .bool false] 32)
      have hbY := heap_alloc_new w2 (.cells #[.string ⟨#[108, 47, 104, 111, 108, 100, 101, 114]⟩, .string (str (encs [zz q, zz ep])), .bool false] 32)
      generalize hw3 : w2.alloc (.cells #[.string ⟨#[108, 47, 104, 111, 108, 100, 101, 114]⟩, .string (str (encs [zz q, zz ep])), .bool false] 32) = w3 at *
      refine hK _ _ ⟨trivial, hlA.keep hcY (by simp)⟩ ?_
      have hT : True ∧ (IsLt w3 y sb ep ow false) := ⟨trivial, hlA.keep hcY (by simp)⟩
      clear hK K hw3
      try simp only [Act.put, List.setIfInBounds_toArray, List.set_cons_zero, List.set_cons_succ]
      refine dr_step 13 rfl (by kernel_rfl) rfl (fun K hK => ?_)
      go_simp
      have hcwY := hcA.trans hcY (by simp)
      have hzY := hcwY.size
      have ha := stapply_any (some ⟨w2.heap.size, 0, none⟩) 1 1 [pH q ep] w3 (h.nil hcwY) (by intro z hz; have := hX z hz; omega) (pairs_one (p := pH q ep) hbY) rfl (by omega) (fun q hq => (hok q hq).1) ht (commitP_fit n 512 a 8 20 [pH q ep] hok (by omega) (by simp only [List.length_cons, List.length_nil]; omega))
      have hlen := lenP_le 512 8 20 1 [pH q ep] hok (by omega) (by simp)
      refine ha.mono ?_
      rintro e w5 ⟨rfl, hs5, hc5⟩
      have hl5 : IsLt w5 y sb ep ow false := (hlA.keep hcY (by simp)).keep hc5 (by simp; omega)
      refine hK _ _ ⟨trivial, hl5⟩ ?_
      have hT : True ∧ (IsLt w5 y sb ep ow false) := ⟨trivial, hl5⟩
      clear hK K ha
      try simp only [Act.put, List.setIfInBounds_toArray, List.set_cons_zero, List.set_cons_succ]
      refine dr_take 14 (some 9) (v := ?_) rfl rfl (by kernel_rfl) (by kernel_rfl) (by kernel_rfl) (fun _ _ _ h => h) rfl hT (fun W _ => ?_) ?_
      rotate_left
      · (go_simp; try with_reducible rfl)
      try simp only [Act.put, List.setIfInBounds_toArray, List.set_cons_zero, List.set_cons_succ]
      refine dr_done (by kernel_rfl) ?_
      have f2 := free_at hl5 2
      have f3 := free_at hl5 3
      have d2 := cell_at hl5 2 rfl
      have d3 := cell_at hl5 3 rfl
      clear hT
      have hHL := Lib.hid hlen
      clear hlen hok
      go_wp2_with fail
      go_ret2
      have hl6 := heap_setCell_same _ y 3 _ 130 (.bool true) (heap_setCell_same w5 y 2 _ 130 (.int .i64 q) hl5)
      have hc6 : Ch [y] w5 ((w5.setCell ⟨y, 2, none⟩ (.int .i64 q)).setCell ⟨y, 3, none⟩ (.bool true)) := ((Ch.refl [y] w5).setCell _ _ (by simp)).setCell _ _ (by simp)
      refine ⟨rfl, hl6, _, hs5.keep (hc6.mono (by simp [hy])), by have := hHL.out; omega, ?_⟩
      exact ((hcwY.mono (G := [sb, lb, um, b, g, m, y]) (by simp)).trans hc5 (by intro z hz; left; simp only [List.mem_cons, List.not_mem_nil, or_false] at hz ⊢; omega)).trans hc6 (by intro z hz; left; simp only [List.mem_cons, List.not_mem_nil, or_false] at hz ⊢; omega)
    · by_cases hoo : o = ow
      · by_cases hee : e0 = ep
        · exact absurd ⟨rfl, by rw [hoo, hee]⟩ hno
        · go_wp2_with fail
          refine dr_begin (by kernel_rfl) ?_
          refine dr_more (fun W => IsLt W y sb ep ow true) ?_
          have hT : True ∧ (IsLt wA.drew y sb ep ow true) := ⟨trivial, hlA.keep (Ch.refl [] wA).drew (by simp)⟩
          refine dr_take 0 (some 39) (v := ?_) rfl rfl (by kernel_rfl) (by kernel_rfl) (by kernel_rfl) (fun _ _ _ h => h) rfl hT (fun W _ => ?_) ?_
          rotate_left
          · (go_simp; try with_reducible rfl)
          try simp only [Act.put, List.setIfInBounds_toArray, List.set_cons_zero, List.set_cons_succ]
          refine dr_take 1 (some 40) (v := ?_) rfl rfl (by kernel_rfl) (by kernel_rfl) (by kernel_rfl) (fun _ _ _ h => h) rfl hT (fun W _ => ?_) ?_
          rotate_left
          · (go_simp; try with_reducible rfl)
          try simp only [Act.put, List.setIfInBounds_toArray, List.set_cons_zero, List.set_cons_succ]
          refine dr_take 2 (some 41) (v := ?_) rfl rfl (by kernel_rfl) (by kernel_rfl) (by kernel_rfl) (fun _ _ _ h => h) rfl hT (fun W _ => ?_) ?_
          rotate_left
          · (go_simp; try with_reducible rfl)
          try simp only [Act.put, List.setIfInBounds_toArray, List.set_cons_zero, List.set_cons_succ]
          refine dr_take 3 (some 42) (v := ?_) rfl rfl (by kernel_rfl) (by kernel_rfl) (by kernel_rfl) (fun _ _ _ h => h) rfl hT (fun W hW => ?_) ?_
          rotate_left
          · (have h0 := cell_at hW.2 0 rfl; go_simp; try with_reducible rfl)
          try simp only [Act.put, List.setIfInBounds_toArray, List.set_cons_zero, List.set_cons_succ]
          refine dr_take 4 (some 43) (v := ?_) rfl rfl (by kernel_rfl) (by kernel_rfl) (by kernel_rfl) (fun _ _ _ h => h) rfl hT (fun W _ => ?_) ?_
          rotate_left
          · (go_simp; try with_reducible rfl)
          try simp only [Act.put, List.setIfInBounds_toArray, List.set_cons_zero, List.set_cons_succ]
          refine dr_take 5 (some 44) (v := ?_) rfl rfl (by kernel_rfl) (by kernel_rfl) (by kernel_rfl) (fun _ _ _ h => h) rfl hT (fun W _ => ?_) ?_
          rotate_left
          · (go_simp; try with_reducible rfl)
          try simp only [Act.put, List.setIfInBounds_toArray, List.set_cons_zero, List.set_cons_succ]
          refine dr_take 6 (some 45) (v := ?_) rfl rfl (by kernel_rfl) (by kernel_rfl) (by kernel_rfl) (fun _ _ _ h => h) rfl hT (fun W _ => ?_) ?_
          rotate_left
          · (go_simp; try with_reducible rfl)
          try simp only [Act.put, List.setIfInBounds_toArray, List.set_cons_zero, List.set_cons_succ]
          refine dr_take 7 (some 46) (v := ?_) rfl rfl (by kernel_rfl) (by kernel_rfl) (by kernel_rfl) (fun _ _ _ h => h) rfl hT (fun W _ => ?_) ?_
          rotate_left
          · (go_simp; try with_reducible rfl)
          try simp only [Act.put, List.setIfInBounds_toArray, List.set_cons_zero, List.set_cons_succ]
          refine dr_take 8 (some 47) (v := ?_) rfl rfl (by kernel_rfl) (by kernel_rfl) (by kernel_rfl) (fun _ _ _ h => h) rfl hT (fun W hW => ?_) ?_
          rotate_left
          · (have h0 := cell_at hW.2 1 rfl; go_simp; try with_reducible rfl)
          try simp only [Act.put, List.setIfInBounds_toArray, List.set_cons_zero, List.set_cons_succ]
          refine dr_step 9 rfl (by kernel_rfl) rfl (fun K hK => ?_)
          go_simp
          have hcX : Ch [] wA (wA.alloc (.cells #[.int .i64 q, .int .i64 ep] 2)).drew := ((Ch.refl [] wA).alloc _).drew
          have hrX := (rd_two wA q ep).keep (Ch.refl [] _).drew (by simp)
          generalize (wA.alloc (.cells #[.int .i64 q, .int .i64 ep] 2)).drew = w0 at *
          refine hK _ _ ⟨trivial, hlA.keep hcX (by simp)⟩ ?_
          have hT : True ∧ (IsLt w0 y sb ep ow true) := ⟨trivial, hlA.keep hcX (by simp)⟩
          clear hK K
          try simp only [Act.put, List.setIfInBounds_toArray, List.set_cons_zero, List.set_cons_succ]
          refine dr_step 10 rfl (by kernel_rfl) rfl (fun K hK => ?_)
          go_simp
          refine (ltext_any q ep _ 2 w0 hrX hq hep).mono ?_
          rintro e w2 ⟨rfl, hc2⟩
          have hcw := hcX.trans hc2 (by simp)
          refine hK _ _ ⟨trivial, hlA.keep hcw (by simp)⟩ ?_
          have hT : True ∧ (IsLt w2 y sb ep ow true) := ⟨trivial, hlA.keep hcw (by simp)⟩
          clear hK K
          try simp only [Act.put, List.setIfInBounds_toArray, List.set_cons_zero, List.set_cons_succ]
          refine dr_take 11 (some 50) (v := ?_) rfl rfl (by kernel_rfl) (by kernel_rfl) (by kernel_rfl) (fun _ _ _ h => h) rfl hT (fun W _ => ?_) ?_
          rotate_left
          · (go_simp; try with_reducible rfl)
          try simp only [Act.put, List.setIfInBounds_toArray, List.set_cons_zero, List.set_cons_succ]
          refine dr_step 12 rfl (by kernel_rfl) rfl (fun K hK => ?_)
          go_simp
          have hcY := hcw.alloc (.cells #[.string ⟨#[108, 47, 104, 111, 108, 100, 101, 114]⟩, .string (str (encs [zz q, zz ep])), .bool false] 32)
          have hbY := heap_alloc_new w2 (.cells #[.string ⟨#[108, 47, 104, 111, 108, 100, 101, 114]⟩, .string (str (encs [zz q, zz ep])), .bool false] 32)
          generalize hw3 : w2.alloc (.cells #[.string ⟨#[108, 47, 104, 111, 108, 100, 101, 114]⟩, .string (str (encs [zz q, zz ep])), .bool false] 32) = w3 at *
          refine hK _ _ ⟨trivial, hlA.keep hcY (by simp)⟩ ?_
          have hT : True ∧ (IsLt w3 y sb ep ow true) := ⟨trivial, hlA.keep hcY (by simp)⟩
          clear hK K hw3
          try simp only [Act.put, List.setIfInBounds_toArray, List.set_cons_zero, List.set_cons_succ]
          refine dr_step 13 rfl (by kernel_rfl) rfl (fun K hK => ?_)
          go_simp
          have hcwY := hcA.trans hcY (by simp)
          have hzY := hcwY.size
          have ha := stapply_any (some ⟨w2.heap.size, 0, none⟩) 1 1 [pH q ep] w3 (h.nil hcwY) (by intro z hz; have := hX z hz; omega) (pairs_one (p := pH q ep) hbY) rfl (by omega) (fun q hq => (hok q hq).1) ht (commitP_fit n 512 a 8 20 [pH q ep] hok (by omega) (by simp only [List.length_cons, List.length_nil]; omega))
          have hlen := lenP_le 512 8 20 1 [pH q ep] hok (by omega) (by simp)
          refine ha.mono ?_
          rintro e w5 ⟨rfl, hs5, hc5⟩
          have hl5 : IsLt w5 y sb ep ow true := (hlA.keep hcY (by simp)).keep hc5 (by simp; omega)
          refine hK _ _ ⟨trivial, hl5⟩ ?_
          have hT : True ∧ (IsLt w5 y sb ep ow true) := ⟨trivial, hl5⟩
          clear hK K ha
          try simp only [Act.put, List.setIfInBounds_toArray, List.set_cons_zero, List.set_cons_succ]
          refine dr_take 14 (some 9) (v := ?_) rfl rfl (by kernel_rfl) (by kernel_rfl) (by kernel_rfl) (fun _ _ _ h => h) rfl hT (fun W _ => ?_) ?_
          rotate_left
          · (go_simp; try with_reducible rfl)
          try simp only [Act.put, List.setIfInBounds_toArray, List.set_cons_zero, List.set_cons_succ]
          refine dr_done (by kernel_rfl) ?_
          have f2 := free_at hl5 2
          have f3 := free_at hl5 3
          have d2 := cell_at hl5 2 rfl
          have d3 := cell_at hl5 3 rfl
          clear hT
          have hHL := Lib.hid hlen
          clear hlen hok
          go_wp2_with fail
          go_ret2
          have hl6 := heap_setCell_same _ y 3 _ 130 (.bool true) (heap_setCell_same w5 y 2 _ 130 (.int .i64 q) hl5)
          have hc6 : Ch [y] w5 ((w5.setCell ⟨y, 2, none⟩ (.int .i64 q)).setCell ⟨y, 3, none⟩ (.bool true)) := ((Ch.refl [y] w5).setCell _ _ (by simp)).setCell _ _ (by simp)
          refine ⟨rfl, hl6, _, hs5.keep (hc6.mono (by simp [hy])), by have := hHL.out; omega, ?_⟩
          exact ((hcwY.mono (G := [sb, lb, um, b, g, m, y]) (by simp)).trans hc5 (by intro z hz; left; simp only [List.mem_cons, List.not_mem_nil, or_false] at hz ⊢; omega)).trans hc6 (by intro z hz; left; simp only [List.mem_cons, List.not_mem_nil, or_false] at hz ⊢; omega)
      · go_wp2_with fail
        refine dr_begin (by kernel_rfl) ?_
        refine dr_more (fun W => IsLt W y sb ep ow true) ?_
        have hT : True ∧ (IsLt wA.drew y sb ep ow true) := ⟨trivial, hlA.keep (Ch.refl [] wA).drew (by simp)⟩
        refine dr_take 0 (some 39) (v := ?_) rfl rfl (by kernel_rfl) (by kernel_rfl) (by kernel_rfl) (fun _ _ _ h => h) rfl hT (fun W _ => ?_) ?_
        rotate_left
        · (go_simp; try with_reducible rfl)
        try simp only [Act.put, List.setIfInBounds_toArray, List.set_cons_zero, List.set_cons_succ]
        refine dr_take 1 (some 40) (v := ?_) rfl rfl (by kernel_rfl) (by kernel_rfl) (by kernel_rfl) (fun _ _ _ h => h) rfl hT (fun W _ => ?_) ?_
        rotate_left
        · (go_simp; try with_reducible rfl)
        try simp only [Act.put, List.setIfInBounds_toArray, List.set_cons_zero, List.set_cons_succ]
        refine dr_take 2 (some 41) (v := ?_) rfl rfl (by kernel_rfl) (by kernel_rfl) (by kernel_rfl) (fun _ _ _ h => h) rfl hT (fun W _ => ?_) ?_
        rotate_left
        · (go_simp; try with_reducible rfl)
        try simp only [Act.put, List.setIfInBounds_toArray, List.set_cons_zero, List.set_cons_succ]
        refine dr_take 3 (some 42) (v := ?_) rfl rfl (by kernel_rfl) (by kernel_rfl) (by kernel_rfl) (fun _ _ _ h => h) rfl hT (fun W hW => ?_) ?_
        rotate_left
        · (have h0 := cell_at hW.2 0 rfl; go_simp; try with_reducible rfl)
        try simp only [Act.put, List.setIfInBounds_toArray, List.set_cons_zero, List.set_cons_succ]
        refine dr_take 4 (some 43) (v := ?_) rfl rfl (by kernel_rfl) (by kernel_rfl) (by kernel_rfl) (fun _ _ _ h => h) rfl hT (fun W _ => ?_) ?_
        rotate_left
        · (go_simp; try with_reducible rfl)
        try simp only [Act.put, List.setIfInBounds_toArray, List.set_cons_zero, List.set_cons_succ]
        refine dr_take 5 (some 44) (v := ?_) rfl rfl (by kernel_rfl) (by kernel_rfl) (by kernel_rfl) (fun _ _ _ h => h) rfl hT (fun W _ => ?_) ?_
        rotate_left
        · (go_simp; try with_reducible rfl)
        try simp only [Act.put, List.setIfInBounds_toArray, List.set_cons_zero, List.set_cons_succ]
        refine dr_take 6 (some 45) (v := ?_) rfl rfl (by kernel_rfl) (by kernel_rfl) (by kernel_rfl) (fun _ _ _ h => h) rfl hT (fun W _ => ?_) ?_
        rotate_left
        · (go_simp; try with_reducible rfl)
        try simp only [Act.put, List.setIfInBounds_toArray, List.set_cons_zero, List.set_cons_succ]
        refine dr_take 7 (some 46) (v := ?_) rfl rfl (by kernel_rfl) (by kernel_rfl) (by kernel_rfl) (fun _ _ _ h => h) rfl hT (fun W _ => ?_) ?_
        rotate_left
        · (go_simp; try with_reducible rfl)
        try simp only [Act.put, List.setIfInBounds_toArray, List.set_cons_zero, List.set_cons_succ]
        refine dr_take 8 (some 47) (v := ?_) rfl rfl (by kernel_rfl) (by kernel_rfl) (by kernel_rfl) (fun _ _ _ h => h) rfl hT (fun W hW => ?_) ?_
        rotate_left
        · (have h0 := cell_at hW.2 1 rfl; go_simp; try with_reducible rfl)
        try simp only [Act.put, List.setIfInBounds_toArray, List.set_cons_zero, List.set_cons_succ]
        refine dr_step 9 rfl (by kernel_rfl) rfl (fun K hK => ?_)
        go_simp
        have hcX : Ch [] wA (wA.alloc (.cells #[.int .i64 q, .int .i64 ep] 2)).drew := ((Ch.refl [] wA).alloc _).drew
        have hrX := (rd_two wA q ep).keep (Ch.refl [] _).drew (by simp)
        generalize (wA.alloc (.cells #[.int .i64 q, .int .i64 ep] 2)).drew = w0 at *
        refine hK _ _ ⟨trivial, hlA.keep hcX (by simp)⟩ ?_
        have hT : True ∧ (IsLt w0 y sb ep ow true) := ⟨trivial, hlA.keep hcX (by simp)⟩
        clear hK K
        try simp only [Act.put, List.setIfInBounds_toArray, List.set_cons_zero, List.set_cons_succ]
        refine dr_step 10 rfl (by kernel_rfl) rfl (fun K hK => ?_)
        go_simp
        refine (ltext_any q ep _ 2 w0 hrX hq hep).mono ?_
        rintro e w2 ⟨rfl, hc2⟩
        have hcw := hcX.trans hc2 (by simp)
        refine hK _ _ ⟨trivial, hlA.keep hcw (by simp)⟩ ?_
        have hT : True ∧ (IsLt w2 y sb ep ow true) := ⟨trivial, hlA.keep hcw (by simp)⟩
        clear hK K
        try simp only [Act.put, List.setIfInBounds_toArray, List.set_cons_zero, List.set_cons_succ]
        refine dr_take 11 (some 50) (v := ?_) rfl rfl (by kernel_rfl) (by kernel_rfl) (by kernel_rfl) (fun _ _ _ h => h) rfl hT (fun W _ => ?_) ?_
        rotate_left
        · (go_simp; try with_reducible rfl)
        try simp only [Act.put, List.setIfInBounds_toArray, List.set_cons_zero, List.set_cons_succ]
        refine dr_step 12 rfl (by kernel_rfl) rfl (fun K hK => ?_)
        go_simp
        have hcY := hcw.alloc (.cells #[.string ⟨#[108, 47, 104, 111, 108, 100, 101, 114]⟩, .string (str (encs [zz q, zz ep])), .bool false] 32)
        have hbY := heap_alloc_new w2 (.cells #[.string ⟨#[108, 47, 104, 111, 108, 100, 101, 114]⟩, .string (str (encs [zz q, zz ep])), .bool false] 32)
        generalize hw3 : w2.alloc (.cells #[.string ⟨#[108, 47, 104, 111, 108, 100, 101, 114]⟩, .string (str (encs [zz q, zz ep])), .bool false] 32) = w3 at *
        refine hK _ _ ⟨trivial, hlA.keep hcY (by simp)⟩ ?_
        have hT : True ∧ (IsLt w3 y sb ep ow true) := ⟨trivial, hlA.keep hcY (by simp)⟩
        clear hK K hw3
        try simp only [Act.put, List.setIfInBounds_toArray, List.set_cons_zero, List.set_cons_succ]
        refine dr_step 13 rfl (by kernel_rfl) rfl (fun K hK => ?_)
        go_simp
        have hcwY := hcA.trans hcY (by simp)
        have hzY := hcwY.size
        have ha := stapply_any (some ⟨w2.heap.size, 0, none⟩) 1 1 [pH q ep] w3 (h.nil hcwY) (by intro z hz; have := hX z hz; omega) (pairs_one (p := pH q ep) hbY) rfl (by omega) (fun q hq => (hok q hq).1) ht (commitP_fit n 512 a 8 20 [pH q ep] hok (by omega) (by simp only [List.length_cons, List.length_nil]; omega))
        have hlen := lenP_le 512 8 20 1 [pH q ep] hok (by omega) (by simp)
        refine ha.mono ?_
        rintro e w5 ⟨rfl, hs5, hc5⟩
        have hl5 : IsLt w5 y sb ep ow true := (hlA.keep hcY (by simp)).keep hc5 (by simp; omega)
        refine hK _ _ ⟨trivial, hl5⟩ ?_
        have hT : True ∧ (IsLt w5 y sb ep ow true) := ⟨trivial, hl5⟩
        clear hK K ha
        try simp only [Act.put, List.setIfInBounds_toArray, List.set_cons_zero, List.set_cons_succ]
        refine dr_take 14 (some 9) (v := ?_) rfl rfl (by kernel_rfl) (by kernel_rfl) (by kernel_rfl) (fun _ _ _ h => h) rfl hT (fun W _ => ?_) ?_
        rotate_left
        · (go_simp; try with_reducible rfl)
        try simp only [Act.put, List.setIfInBounds_toArray, List.set_cons_zero, List.set_cons_succ]
        refine dr_done (by kernel_rfl) ?_
        have f2 := free_at hl5 2
        have f3 := free_at hl5 3
        have d2 := cell_at hl5 2 rfl
        have d3 := cell_at hl5 3 rfl
        clear hT
        have hHL := Lib.hid hlen
        clear hlen hok
        go_wp2_with fail
        go_ret2
        have hl6 := heap_setCell_same _ y 3 _ 130 (.bool true) (heap_setCell_same w5 y 2 _ 130 (.int .i64 q) hl5)
        have hc6 : Ch [y] w5 ((w5.setCell ⟨y, 2, none⟩ (.int .i64 q)).setCell ⟨y, 3, none⟩ (.bool true)) := ((Ch.refl [y] w5).setCell _ _ (by simp)).setCell _ _ (by simp)
        refine ⟨rfl, hl6, _, hs5.keep (hc6.mono (by simp [hy])), by have := hHL.out; omega, ?_⟩
        exact ((hcwY.mono (G := [sb, lb, um, b, g, m, y]) (by simp)).trans hc5 (by intro z hz; left; simp only [List.mem_cons, List.not_mem_nil, or_false] at hz ⊢; omega)).trans hc6 (by intro z hz; left; simp only [List.mem_cons, List.not_mem_nil, or_false] at hz ⊢; omega)
end

end Go.Proofs.YtbkncfedahifkaaGreat
