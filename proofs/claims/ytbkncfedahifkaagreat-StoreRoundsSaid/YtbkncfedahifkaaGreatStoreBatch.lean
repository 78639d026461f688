/-
  StoreBatch.
-/
import Derived.Test.YtbkncfedahifkaaGreatLPairs
import Derived.Test.YtbkncfedahifkaaGreatStMore
set_option linter.unusedVariables false
set_option linter.unusedSimpArgs false
namespace Go.Proofs.YtbkncfedahifkaaGreat
open Go.RowKit Go.Maps Go.Sort Go.Shelf

theorem GoodP.seven {ps : List PairL} (h : GoodP ps) {D : Mp} (h7 : Seven D) : Seven (chgs D ps) := seven_chgs h7 (fun p hp => (h p hp).2.2.2)

set_option maxRecDepth 100000 in
set_option maxHeartbeats 4000000 in
theorem store_batch (A : Option Addr) (n c : Nat) (l : List P5) (w : World) (hr : Rd 3 w A n c (l.flatMap P5.cells)) (hn : l.length = n) (hok : ∀ x ∈ l, x.ok) :
    Calls Tryz.prog 4 #[.slice A n c] w fun e w' => e = .returned (.bool true) ∧ Ch [] w w' := by
  have hmm := @run_makeMap Tryz.prog
  have hcc := hr.cap
  have hcm := hr.max
  have HOK := Lib.hid hok
  clear hok
  go_enter Tryz.func4, Tryz.ntmps4
  go_wp2_with fail
  refine (known5 w).mono ?_
  rintro e w1 ⟨rfl, hc1⟩
  by_cases hn20 : n ≤ 20
  case neg =>
    go_wp2_with fail
    go_ret
    exact ⟨rfl, hc1⟩
  have hnd := newdiskS_any 400 512 [] w1 (by simp) (by omega) (by omega) (by omega) (by omega)
  rw [show ((400 : Nat) : Int) = 400 from rfl, show ((512 : Nat) : Int) = 512 from rfl] at hnd
  go_wp2_with fail
  refine hnd.mono ?_
  rintro e w2 ⟨b, g, m, rfl, hb, hg, hm, hlt2, hd2, hc2⟩
  clear hnd
  have ho := stopen_any w2 hd2 (by simp) (by omega) (by omega) (by omega)
  go_wp2_with fail
  refine ho.mono ?_
  rintro e w3 ⟨sb, lb, um, rfl, hsb, hlb, hum, hs3, hc3⟩
  clear ho hd2
  have hc03 := (hc1.trans hc2 (by simp)).trans hc3 (by simp)
  have hM4 := isM_made w3
  have hc4 : Ch [] w3 (w3.alloc (.map #[] 0)) := (Ch.refl [] w3).alloc _
  have ho3 := hs3.out
  have hpr := pairs5_any 1 A n c l w3.heap.size (.map []) (w3.alloc (.map #[] 0)) (hr.keep (hc03.trans hc4 (by simp)) (by simp)) hn HOK.out hM4 (by omega) (by omega) (by decide)
  rw [show ((1 : Nat) : Int) = 1 from rfl] at hpr
  have hs4 := (hs3.add (Nat.le_refl _)).nil hc4
  have hmmw : w.heap.size ≤ w3.heap.size := hc03.size
  go_wp2_with fail
  generalize w3.alloc (.map #[] 0) = w4 at *
  generalize hmb : w3.heap.size = mm at *
  have HMB := Lib.hid hmb
  have hmlt := hM4.lt
  refine hpr.mono ?_
  rintro e w5 ⟨v5, ps, rfl, hr5, hpl, hgp, hM5, hc5⟩
  clear hpr hmm hmb
  obtain ⟨A5, c5, rfl⟩ := own_slice hr5
  have hs5 := hs4.keep (hc5.mono (by simp))
  have hfit := hgp.fits
  have h7 := hgp.seven seven_empty
  have hok5 : ∀ p ∈ ps, p.ok := fun p hp => (hgp p hp).1
  have hX5 : ∀ x ∈ [mm], x < w5.heap.size := by intro x hx; rw [List.mem_singleton] at hx; subst hx; exact hM5.lt
  have ha := stapply_any A5 n c5 ps w5 hs5 hX5 (own_rd hr5) hpl (by omega) hok5 (by omega) (commitP_fit 400 512 0 3 255 ps hfit (by omega) (by omega))
  clear hr5 hgp hok5
  have HFIT := Lib.hid hfit
  have HPL := Lib.hid hpl
  clear hfit hpl
  go_wp2_with fail
  refine ha.mono ?_
  rintro e w6 ⟨rfl, hs6, hc6⟩
  clear ha
  have hM6 := hM5.keep hc6 (by have := HMB.out; simp; omega)
  have hal := alike_any mm w6 hs6 hM6 h7
  go_wp2_with fail
  refine hal.mono ?_
  rintro e w7 ⟨rfl, hc7⟩
  clear hal
  have ho6 := hs6.out
  have hd7 := (hs6.disk.nil hc7)
  have hs67 := hc7.size
  have hX7 : ∀ x ∈ [lb, um, sb, mm], x < w7.heap.size := by have := hM6.lt; simp; omega
  have ho := stopen_any w7 hd7 hX7 (by omega) (by omega) (by omega)
  go_wp2_with fail
  refine ho.mono ?_
  rintro e w8 ⟨sb2, lb2, um2, rfl, hsb2, hlb2, hum2, hs8, hc8⟩
  clear ho hd7
  have hal := alike_any mm w8 hs8 ((hM6.keep hc7 (by simp)).keep hc8 (by simp)) h7
  go_wp2_with fail
  refine hal.mono ?_
  rintro e w9 ⟨rfl, hc9⟩
  clear hal
  go_wp2_with fail
  go_ret
  refine ⟨rfl, ?_⟩
  have hcw5 : Ch [] w w5 := (hc03.trans hc4 (by simp)).trans hc5 (by simp; have := HMB.out; omega)
  have hcw6 : Ch [] w w6 := hcw5.trans hc6 (by have := hc1.size; have := hc2.size; intro y hy; simp at hy; omega)
  exact ((hcw6.trans hc7 (by simp)).trans hc8 (by simp)).trans hc9 (by simp)

end Go.Proofs.YtbkncfedahifkaaGreat
