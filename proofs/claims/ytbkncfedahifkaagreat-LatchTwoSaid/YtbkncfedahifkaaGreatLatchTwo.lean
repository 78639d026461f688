/-
  LatchTwo.
-/
import Derived.Test.YtbkncfedahifkaaGreatLatchKnown
set_option linter.unusedVariables false
set_option linter.unusedSimpArgs false
namespace Go.Proofs.YtbkncfedahifkaaGreat
open Go.RowKit Go.Maps Go.Sort Go.Shelf

set_option maxRecDepth 100000 in
set_option maxHeartbeats 8000000 in
theorem latch_two (p q : Int) (leave : Bool) (w : World) (hp : 0 ≤ p ∧ p ≤ 255) (hq : 0 ≤ q ∧ q ≤ 255) :
    Calls Tryz.prog 8 #[.int .u8 p, .int .u8 q, .bool leave] w fun e w' => e = .returned (.bool true) ∧ Ch [] w w' := by
  have hp1 : IntKind.i64.wrap p = p := by rw [IntKind.wrap_i64]; omega
  have hq1 : IntKind.i64.wrap q = q := by rw [IntKind.wrap_i64]; omega
  go_enter Tryz.func8, Tryz.ntmps8
  go_wp2_with fail
  refine (known25 w).mono ?_
  rintro e w0 ⟨rfl, hc0⟩
  have hz0 := hc0.size
  have hnd := new_store 400 w0 (by omega) (by omega)
  rw [show ((400 : Nat) : Int) = 400 from rfl] at hnd
  go_wp2_with fail
  refine hnd.mono ?_
  rintro e w1 ⟨b, g, m, rfl, hb, hg, hm, hd1, hc1⟩
  clear hnd
  have ho := stopen_any w1 hd1 (by simp) (by omega) (by omega) (by omega)
  go_wp2_with fail
  refine ho.mono ?_
  rintro e w2 ⟨sb, lb, um, rfl, hsb, hlb, hum, hs2, hc2⟩
  clear ho hd1
  have hcw2 := (hc0.trans hc1 (by simp)).trans hc2 (by simp)
  have hz1 := hc1.size
  have hfr : ∀ z ∈ [sb, lb, um, b, g, m], w.heap.size ≤ z := by intro z hz; simp only [List.mem_cons, List.not_mem_nil, or_false] at hz; omega
  have HFR := Lib.hid hfr
  clear hfr hb hg hm hsb hlb hum hc0 hc1 hc2 hz1 hz0
  have hop := lats_open (ep := 0) (x := none) w2 hs2 epoch_empty noted_empty (by omega) (by omega) (by omega)
  go_wp2_with fail
  refine hop.mono ?_
  rintro e w3 ⟨y, a3, D3, rfl, hy, hy2, ha3, hl3, hc3⟩
  clear hop hs2
  have hcw3 : Ch [] w w3 := hcw2.trans hc3 (fun z hz => .inr (HFR.out z hz))
  have hyw : w.heap.size ≤ y := by have := hcw2.size; omega
  have hfr : ∀ z ∈ [sb, lb, um, b, g, m, y], w.heap.size ≤ z := by
    intro z hz
    have := HFR.out z
    simp only [List.mem_cons, List.not_mem_nil, or_false] at hz this
    omega
  have HF2 := Lib.hid hfr
  clear hfr hc3 hy hcw2
  rw [show (0 + 1 : Nat) = 1 from rfl] at hl3
  have ht := lats_yes p w3 hl3 (by simp) (by simp) (by omega) (by omega) (by omega) (by omega)
  go_wp2_with fail
  refine ht.mono ?_
  rintro e wx ⟨rfl, ax, Dx, hax, hlx, hc4⟩
  clear ht hl3
  have hcx : Ch [] w wx := hcw3.trans hc4 (fun z hz => .inr (HF2.out z hz))
  clear hc4 hcw3
  rcases leave with _ | _
  · go_wp2_with fail
    have hy1 := hlx.ylt
    have hzx := hcx.size
    have hop := lopen_any 1 wx hlx.st (by simpa using hy1) hlx.ep (by omega) (by omega) (by omega)
    rw [show ((1 + 1 : Nat) : Int) = 2 from rfl] at hop
    have hno1 := noted_epoch 2 hlx.no
    go_wp2_with fail
    refine hop.mono ?_
    rintro e w5 ⟨y2, a5, rfl, hy2, hL5, hs5, ha5, hc5⟩
    clear hop
    have hY5 := hlx.lt.keep hc5 (by have := hlx.yn; simp only [List.mem_cons, List.not_mem_nil, or_false]; omega)
    have hcw5 : Ch [] w w5 := hcx.trans hc5 (fun z hz => .inr (HFR.out z hz))
    have hD5 := hs5.strMap
    generalize chgs Dx [pE (1 + 1)] = D5 at *
    have ho5 := hs5.out
    have hy2l := lt_of_at hL5
    have hw2 : w.heap.size ≤ y2 := by omega
    have hn2 : y2 ≠ sb ∧ y2 ≠ lb ∧ y2 ≠ um ∧ y2 ≠ b ∧ y2 ≠ g ∧ y2 ≠ m := by have := hlx.st.out; omega
    have hyn := hlx.yn
    have hyy : y2 ≠ y := by omega
    have HN2 := Lib.hid hn2
    have HYN := Lib.hid hyn
    clear hlx hcx hc5 hn2 hyn ho5 hzx hy2
    have he2 := fun W (h : Ch [] w5 W) => lepoch_any y2 2 0 false W (hL5.keep h (by simp))
    have he1 := fun W (h : Ch [] w5 W) => lepoch_any y ((1 : Nat) : Int) p true W (hY5.keep h (by simp))
    rw [show ((1 : Nat) : Int) = 1 from rfl] at he1
    go_wp2_with fail
    refine (he2 _ (Ch.refl _ _)).mono ?_
    rintro e w6 ⟨rfl, rfl⟩
    go_wp2_with fail
    refine (he1 _ (Ch.refl _ _)).mono ?_
    rintro e w6 ⟨rfl, rfl⟩
    clear he2
    rw [show ((1 : Nat) : Int) = 1 from rfl] at hno1
    have hwho := lholder_yes p 1 y2 2 0 false w5 hs5 hL5 hno1 (i64_ok (by omega)) (i64_ok (by omega))
    go_wp2_with fail
    refine hwho.mono ?_
    rintro e w6 ⟨rfl, hc6⟩
    clear hwho
    go_wp2_with fail
    refine (he1 _ hc6).mono ?_
    rintro e w7 ⟨rfl, rfl⟩
    clear he1
    have hs6 := hs5.nil hc6
    have hL6 := hL5.keep hc6 (by simp)
    have hY6 := hY5.keep hc6 (by simp)
    have hcw6 := hcw5.trans hc6 (by simp)
    clear hs5 hL5 hY5 hcw5 hc6
    have hX6 : ∀ z ∈ [y2, y], z < w6.heap.size := by
      have := lt_of_at hL6
      have := lt_of_at hY6
      simp; omega
    have ht := ltry_yes (some (p, 1)) y2 2 0 q false w6 hs6 hL6 hno1 (by simp) (by intro o e he; injection he with he; injection he with h1 h2; subst h1 h2; exact ⟨i64_ok (by omega), i64_ok (by omega)⟩) (i64_ok (by omega)) (i64_ok (by omega)) hX6 (by simp) (by omega) (by omega) HN2.out
    go_wp2_with fail
    refine ht.mono ?_
    rintro e w7 ⟨rfl, hL7, a7, hs7, ha7, hc7⟩
    clear ht
    have hY7 := hY6.keep hc7 (by have := HYN.out; simp only [List.mem_cons, List.not_mem_nil, or_false]; omega)
    have hcw7 : Ch [] w w7 := hcw6.trans hc7 (by
      intro z hz
      have := HFR.out z
      simp only [List.mem_cons, List.not_mem_nil, or_false] at hz this
      right
      omega)
    have hno7 := noted_hold (strMap_isMap hD5) q 2
    clear hs6 hL6 hY6 hcw6 hc7 hX6 hno1
    have hwho := lholder_yes q 2 y 1 p true w7 hs7 hY7 hno7 (i64_ok (by omega)) (i64_ok (by omega))
    go_wp2_with fail
    refine hwho.mono ?_
    rintro e w8 ⟨rfl, hc8⟩
    clear hwho
    have hL8 := hL7.keep hc8 (by simp)
    have hn8 := ltry_no y2 2 q p w8 (hs7.nil hc8) hL8 hno7 (i64_ok (by omega)) (i64_ok (by omega))
    have hcw8 := hcw7.trans hc8 (by simp)
    go_wp2_with fail
    refine hn8.mono ?_
    rintro e w9 ⟨rfl, hc9⟩
    clear hn8
    have he2 := fun W (h : Ch [] w9 W) => lepoch_any y2 2 q true W ((hL8.keep hc9 (by simp)).keep h (by simp))
    go_wp2_with fail
    refine (he2 _ (Ch.refl _ _)).mono ?_
    rintro e w10 ⟨rfl, rfl⟩
    go_wp2_with fail
    go_ret
    exact ⟨rfl, hcw8.trans hc9 (by simp)⟩
  · have ht := lats_leave p wx hlx
    rw [show (true && !decide (p = p)) = false by simp] at ht
    go_wp2_with fail
    refine ht.mono ?_
    clear hlx
    rintro e w5 ⟨rfl, hlx, hc5⟩
    clear ht
    replace hcx : Ch [] w w5 := hcx.trans hc5 (fun z hz => .inr (HF2.out z (by simp only [List.mem_singleton] at hz; simp [hz])))
    clear hc5
    generalize w5 = wx at *
    go_wp2_with fail
    have hy1 := hlx.ylt
    have hzx := hcx.size
    have hop := lopen_any 1 wx hlx.st (by simpa using hy1) hlx.ep (by omega) (by omega) (by omega)
    rw [show ((1 + 1 : Nat) : Int) = 2 from rfl] at hop
    have hno1 := noted_epoch 2 hlx.no
    go_wp2_with fail
    refine hop.mono ?_
    rintro e w5 ⟨y2, a5, rfl, hy2, hL5, hs5, ha5, hc5⟩
    clear hop
    have hY5 := hlx.lt.keep hc5 (by have := hlx.yn; simp only [List.mem_cons, List.not_mem_nil, or_false]; omega)
    have hcw5 : Ch [] w w5 := hcx.trans hc5 (fun z hz => .inr (HFR.out z hz))
    have hD5 := hs5.strMap
    generalize chgs Dx [pE (1 + 1)] = D5 at *
    have ho5 := hs5.out
    have hy2l := lt_of_at hL5
    have hw2 : w.heap.size ≤ y2 := by omega
    have hn2 : y2 ≠ sb ∧ y2 ≠ lb ∧ y2 ≠ um ∧ y2 ≠ b ∧ y2 ≠ g ∧ y2 ≠ m := by have := hlx.st.out; omega
    have hyn := hlx.yn
    have hyy : y2 ≠ y := by omega
    have HN2 := Lib.hid hn2
    have HYN := Lib.hid hyn
    clear hlx hcx hc5 hn2 hyn ho5 hzx hy2
    have he2 := fun W (h : Ch [] w5 W) => lepoch_any y2 2 0 false W (hL5.keep h (by simp))
    have he1 := fun W (h : Ch [] w5 W) => lepoch_any y ((1 : Nat) : Int) p false W (hY5.keep h (by simp))
    rw [show ((1 : Nat) : Int) = 1 from rfl] at he1
    go_wp2_with fail
    refine (he2 _ (Ch.refl _ _)).mono ?_
    rintro e w6 ⟨rfl, rfl⟩
    go_wp2_with fail
    refine (he1 _ (Ch.refl _ _)).mono ?_
    rintro e w6 ⟨rfl, rfl⟩
    clear he2
    rw [show ((1 : Nat) : Int) = 1 from rfl] at hno1
    have hwho := lholder_yes p 1 y2 2 0 false w5 hs5 hL5 hno1 (i64_ok (by omega)) (i64_ok (by omega))
    go_wp2_with fail
    refine hwho.mono ?_
    rintro e w6 ⟨rfl, hc6⟩
    clear hwho
    go_wp2_with fail
    refine (he1 _ hc6).mono ?_
    rintro e w7 ⟨rfl, rfl⟩
    clear he1
    have hs6 := hs5.nil hc6
    have hL6 := hL5.keep hc6 (by simp)
    have hY6 := hY5.keep hc6 (by simp)
    have hcw6 := hcw5.trans hc6 (by simp)
    clear hs5 hL5 hY5 hcw5 hc6
    have hX6 : ∀ z ∈ [y2, y], z < w6.heap.size := by
      have := lt_of_at hL6
      have := lt_of_at hY6
      simp; omega
    have ht := ltry_yes (some (p, 1)) y2 2 0 q false w6 hs6 hL6 hno1 (by simp) (by intro o e he; injection he with he; injection he with h1 h2; subst h1 h2; exact ⟨i64_ok (by omega), i64_ok (by omega)⟩) (i64_ok (by omega)) (i64_ok (by omega)) hX6 (by simp) (by omega) (by omega) HN2.out
    go_wp2_with fail
    refine ht.mono ?_
    rintro e w7 ⟨rfl, hL7, a7, hs7, ha7, hc7⟩
    clear ht
    have hY7 := hY6.keep hc7 (by have := HYN.out; simp only [List.mem_cons, List.not_mem_nil, or_false]; omega)
    have hcw7 : Ch [] w w7 := hcw6.trans hc7 (by
      intro z hz
      have := HFR.out z
      simp only [List.mem_cons, List.not_mem_nil, or_false] at hz this
      right
      omega)
    have hno7 := noted_hold (strMap_isMap hD5) q 2
    clear hs6 hL6 hY6 hcw6 hc7 hX6 hno1
    have hwho := lholder_yes q 2 y 1 p false w7 hs7 hY7 hno7 (i64_ok (by omega)) (i64_ok (by omega))
    go_wp2_with fail
    refine hwho.mono ?_
    rintro e w8 ⟨rfl, hc8⟩
    clear hwho
    have hL8 := hL7.keep hc8 (by simp)
    have hn8 := ltry_no y2 2 q p w8 (hs7.nil hc8) hL8 hno7 (i64_ok (by omega)) (i64_ok (by omega))
    have hcw8 := hcw7.trans hc8 (by simp)
    go_wp2_with fail
    refine hn8.mono ?_
    rintro e w9 ⟨rfl, hc9⟩
    clear hn8
    have he2 := fun W (h : Ch [] w9 W) => lepoch_any y2 2 q true W ((hL8.keep hc9 (by simp)).keep h (by simp))
    go_wp2_with fail
    refine (he2 _ (Ch.refl _ _)).mono ?_
    rintro e w10 ⟨rfl, rfl⟩
    go_wp2_with fail
    go_ret
    exact ⟨rfl, hcw8.trans hc9 (by simp)⟩

end Go.Proofs.YtbkncfedahifkaaGreat
