/-
  The statements of layer 25: a store and a latch over it; known.
-/
import Derived.Test.YtbkncfedahifkaaGreatLatch2
import Derived.Test.YtbkncfedahifkaaGreatStFull
set_option linter.unusedVariables false
set_option linter.unusedSimpArgs false
namespace Go.Proofs.YtbkncfedahifkaaGreat
open Go.RowKit Go.Maps Go.Sort Go.Shelf

/-- A store, a latch over it: all that is known. -/
structure LatS (w : World) (sb lb um b g m y n turn a : Nat) (D : Mp) (ep : Nat) (ow : Int) (hd : Bool) (x : Option (Int × Int)) : Prop where
  st : StoreS w sb lb um b g m [y] n 512 turn a D
  lt : IsLt w y sb (ep : Int) ow hd
  ep : EpochOf D ep
  no : Noted D x
  yn : y ≠ sb ∧ y ≠ lb ∧ y ≠ um ∧ y ≠ b ∧ y ≠ g ∧ y ≠ m

theorem epoch_empty : EpochOf (.map []) 0 := rfl
theorem noted_empty : Noted (.map []) none := ⟨rfl, rfl⟩
section
variable {sb lb um b g m y n turn a : Nat} {D : Mp} {ep : Nat} {ow : Int} {hd : Bool} {x : Option (Int × Int)} {w w' : World}
theorem LatS.nil (h : LatS w sb lb um b g m y n turn a D ep ow hd x) (hc : Ch [] w w') : LatS w' sb lb um b g m y n turn a D ep ow hd x :=
  ⟨h.st.nil hc, h.lt.keep hc (by simp), h.ep, h.no, h.yn⟩
theorem LatS.ylt (h : LatS w sb lb um b g m y n turn a D ep ow hd x) : y < w.heap.size := lt_of_at h.lt
theorem LatS.hX (h : LatS w sb lb um b g m y n turn a D ep ow hd x) : ∀ z ∈ [y], z < w.heap.size := by
  intro z hz
  rw [List.mem_singleton] at hz
  subst hz
  exact h.ylt

/-- A latch is opened over a store. -/
theorem lats_open (w : World) (h : StoreS w sb lb um b g m [] n 512 turn a D) (he : EpochOf D ep) (hn : Noted D x) (hx : ep ≤ 90000) (ht : turn < 4611686018427387904) (hf : a < n / 2) :
    Calls Tryz.prog 27 #[.pointer (some ⟨sb, 0, none⟩)] w fun e w' => ∃ y a' D', e = .returned (.tuple #[.pointer (some ⟨y, 0, none⟩), .int .i64 0]) ∧ w.heap.size ≤ y ∧ y < w'.heap.size ∧ a' ≤ a + 1 ∧ LatS w' sb lb um b g m y n turn a' D' (ep + 1) 0 false x ∧ Ch [sb, lb, um, b, g, m] w w' := by
  have ho := h.out
  refine (lopen_any ep w h (by simp) he hx ht hf).mono ?_
  rintro e w' ⟨y, a', rfl, hy, hl, hs, ha, hc⟩
  refine ⟨y, a', _, rfl, hy, lt_of_at hl, ha, ⟨hs, hl, epoch_new (strMap_isMap h.strMap) _ (by omega), noted_epoch _ hn, ?_⟩, hc⟩
  omega
theorem lats_leave (q : Int) (w : World) (h : LatS w sb lb um b g m y n turn a D ep ow hd x) :
    Calls Tryz.prog 29 #[.pointer (some ⟨y, 0, none⟩), .int .i64 q] w fun e w' => e = .returned (.tuple #[]) ∧ LatS w' sb lb um b g m y n turn a D ep ow (hd && !decide (ow = q)) x ∧ Ch [y] w w' := by
  refine (lleave_any y ep ow q hd w h.lt).mono ?_
  rintro e w' ⟨rfl, hl, hc⟩
  exact ⟨rfl, ⟨h.st.keep hc, hl, h.ep, h.no, h.yn⟩, hc⟩
theorem lats_yes (q : Int) (w : World) (h : LatS w sb lb um b g m y n turn a D ep ow hd x) (hno : ¬ (hd = true ∧ x = some (ow, (ep : Int))))
    (hxb : ∀ o e, x = some (o, e) → (0 ≤ o ∧ o ≤ 100000) ∧ (0 ≤ e ∧ e ≤ 100000)) (hep : ep ≤ 100000) (hq : 0 ≤ q ∧ q ≤ 100000) (ht : turn < 4611686018427387904) (hf : a < n / 2) :
    Calls Tryz.prog 28 #[.pointer (some ⟨y, 0, none⟩), .int .i64 q] w fun e w' => e = .returned (.tuple #[.bool true, .int .i64 0]) ∧ ∃ a' D', a' ≤ a + 1 ∧ LatS w' sb lb um b g m y n turn a' D' ep q true (some (q, (ep : Int))) ∧ Ch [sb, lb, um, b, g, m, y] w w' := by
  refine (ltry_yes x y ep ow q hd w h.st h.lt h.no hno (fun o e he => ⟨i64_ok (hxb o e he).1, i64_ok (hxb o e he).2⟩) (i64_ok (by omega)) (i64_ok hq) h.hX (by simp) ht hf h.yn).mono ?_
  rintro e w' ⟨rfl, hl, a', hs, ha, hc⟩
  exact ⟨rfl, a', _, ha, ⟨hs, hl, epoch_hold _ _ h.ep, noted_hold (strMap_isMap h.st.strMap) _ _, h.yn⟩, hc⟩
theorem lats_no (q : Int) (w : World) (h : LatS w sb lb um b g m y n turn a D ep ow true (some (ow, (ep : Int)))) (how : 0 ≤ ow ∧ ow ≤ 100000) (hep : ep ≤ 100000) :
    Calls Tryz.prog 28 #[.pointer (some ⟨y, 0, none⟩), .int .i64 q] w fun e w' => e = .returned (.tuple #[.bool false, .int .i64 0]) ∧ Ch [] w w' :=
  ltry_no y ep ow q w h.st h.lt h.no (i64_ok how) (i64_ok (by omega))
theorem lats_who (o e0 : Int) (w : World) (h : LatS w sb lb um b g m y n turn a D ep ow hd (some (o, e0))) (ho : 0 ≤ o ∧ o ≤ 100000) (he : 0 ≤ e0 ∧ e0 ≤ 100000) :
    Calls Tryz.prog 31 #[.pointer (some ⟨y, 0, none⟩)] w fun e w' => e = .returned (.tuple #[.int .i64 o, .int .i64 e0, .bool true]) ∧ Ch [] w w' :=
  lholder_yes o e0 y ep ow hd w h.st h.lt h.no (i64_ok ho) (i64_ok he)
theorem lats_none (w : World) (h : LatS w sb lb um b g m y n turn a D ep ow hd none) :
    Calls Tryz.prog 31 #[.pointer (some ⟨y, 0, none⟩)] w fun e w' => e = .returned (.tuple #[.int .i64 0, .int .i64 0, .bool false]) ∧ Ch [] w w' :=
  lholder_no y ep ow hd w h.st h.lt h.no
end

/-- The start of each: a disk, a store, a latch. -/
theorem new_store (n : Nat) (w : World) (hn : 16 ≤ n) (hn1 : n ≤ 4096) :
    Calls Tryz.prog 14 #[.int .i64 (n : Int), .int .i64 512] w fun e w1 => ∃ b g m, e = .returned (.pointer (some ⟨b, 0, none⟩)) ∧ w.heap.size ≤ b ∧ w.heap.size ≤ g ∧ w.heap.size ≤ m ∧ StoreD w1 b g m [] n 512 0 0 (.map []) ∧ Ch [] w w1 := by
  refine (newdiskS_any n 512 [] w (by simp) (by omega) hn1 (by omega) (by omega)).mono ?_
  rintro e w1 ⟨b, g, m, rfl, hb, hg, hm, _, hd, hc⟩
  exact ⟨b, g, m, rfl, hb, hg, hm, hd, hc⟩

set_option maxRecDepth 100000 in
set_option maxHeartbeats 4000000 in
theorem known25 (w : World) : Calls Tryz.prog 26 #[] w fun e w' => e = .returned (.bool true) ∧ Ch [] w w' := by
  have hnd := new_store 400 w (by omega) (by omega)
  rw [show ((400 : Nat) : Int) = 400 from rfl] at hnd
  go_enter Tryz.func26, Tryz.ntmps26
  go_wp2_with fail
  refine hnd.mono ?_
  rintro e w1 ⟨b, g, m, rfl, hb, hg, hm, hd1, hc1⟩
  clear hnd
  have ho := stopen_any w1 hd1 (by simp) (by omega) (by omega) (by omega)
  go_wp2_with fail
  refine ho.mono ?_
  rintro e w2 ⟨sb, lb, um, rfl, hsb, hlb, hum, hs2, hc2⟩
  clear ho hd1
  have hcw2 := hc1.trans hc2 (by simp)
  have hz1 := hc1.size
  have hfr : ∀ z ∈ [sb, lb, um, b, g, m], w.heap.size ≤ z := by intro z hz; simp only [List.mem_cons, List.not_mem_nil, or_false] at hz; omega
  have HFR := Lib.hid hfr
  clear hfr hb hg hm hsb hlb hum hc1 hc2 hz1
  have hop := lats_open (ep := 0) (x := none) w2 hs2 epoch_empty noted_empty (by omega) (by omega) (by omega)
  go_wp2_with fail
  refine hop.mono ?_
  rintro e w3 ⟨y, a3, D3, rfl, hy, hy2, ha3, hl3, hc3⟩
  clear hop hs2
  have hcw3 : Ch [] w w3 := hcw2.trans hc3 (fun z hz => .inr (HFR.out z hz))
  have hyw : w.heap.size ≤ y := by have := hcw2.size; omega
  have hfr : ∀ z ∈ [sb, lb, um, b, g, m, y], w.heap.size ≤ z := by
    intro z hz
    have := HFR.out z
    simp only [List.mem_cons, List.not_mem_nil, or_false] at hz this
    omega
  have HF2 := Lib.hid hfr
  clear hfr hc3 hy hcw2
  have hep := fun W (h : Ch [] w3 W) => lepoch_any y ((0 + 1 : Nat) : Int) 0 false W (hl3.nil h).lt
  rw [show ((0 + 1 : Nat) : Int) = 1 from rfl] at hep
  go_wp2_with fail
  refine (hep _ (Ch.refl _ _)).mono ?_
  rintro e w4 ⟨rfl, rfl⟩
  clear hep
  have ht := lats_yes 0 w3 hl3 (by simp) (by simp) (by omega) (by omega) (by omega) (by omega)
  go_wp2_with fail
  refine ht.mono ?_
  rintro e w4 ⟨rfl, a4, D4, ha4, hl4, hc4⟩
  clear ht hl3
  have hcw4 : Ch [] w w4 := hcw3.trans hc4 (fun z hz => .inr (HF2.out z hz))
  clear hc4 hcw3
  have ht := lats_no 1 w4 hl4 (by omega) (by omega)
  go_wp2_with fail
  refine ht.mono ?_
  rintro e w5 ⟨rfl, hc5⟩
  clear ht
  have hl5 := hl4.nil hc5
  have hcw5 := hcw4.trans hc5 (by simp)
  clear hl4 hc5 hcw4
  have ht := lats_who 0 ((0 + 1 : Nat) : Int) w5 hl5 (by omega) (by omega)
  go_wp2_with fail
  refine ht.mono ?_
  rintro e w6 ⟨rfl, hc6⟩
  clear ht
  have hl6 := hl5.nil hc6
  have hcw6 := hcw5.trans hc6 (by simp)
  clear hl5 hc6 hcw5
  have ht := lats_leave 0 w6 hl6
  go_wp2_with fail
  refine ht.mono ?_
  rintro e w7 ⟨rfl, hl7, hc7⟩
  clear ht hl6
  have hcw7 : Ch [] w w7 := hcw6.trans hc7 (fun z hz => .inr (HF2.out z (by simp only [List.mem_singleton] at hz; simp [hz])))
  clear hc7 hcw6
  have ht := lats_yes 1 w7 hl7 (by simp) (by intro o e he; injection he with he; injection he with h1 h2; omega) (by omega) (by omega) (by omega) (by omega)
  go_wp2_with fail
  refine ht.mono ?_
  rintro e w8 ⟨rfl, a8, D8, ha8, hl8, hc8⟩
  clear ht hl7
  have hcw8 : Ch [] w w8 := hcw7.trans hc8 (fun z hz => .inr (HF2.out z hz))
  go_wp2_with fail
  go_ret
  exact ⟨rfl, hcw8⟩

end Go.Proofs.YtbkncfedahifkaaGreat
