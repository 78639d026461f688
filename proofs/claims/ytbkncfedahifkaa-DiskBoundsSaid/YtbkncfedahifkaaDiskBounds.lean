/-
  DiskBounds: true.
-/
import Derived.Test.YtbkncfedahifkaaDKnown
set_option linter.unusedVariables false
set_option linter.unusedSimpArgs false
namespace Go.Proofs.Ytbkncfedahifkaa
open Go.RowKit Go.Maps

/-- Behind the size is settled. -/
theorem bounds_size (n size : Int) : ∃ N S : Nat, min (max n 1) 4096 = (N : Int) ∧ min (max size 64) 4096 = (S : Int) ∧ (Dsk.new (min (max n 1) 4096).toNat (min (max size 64) 4096).toNat).sure.length = N ∧ (Dsk.new (min (max n 1) 4096).toNat (min (max size 64) 4096).toNat).sz = S := by
  refine ⟨(min (max n 1) 4096).toNat, (min (max size 64) 4096).toNat, by omega, by omega, by simp [Dsk.new], rfl⟩

set_option maxRecDepth 100000 in
set_option maxHeartbeats 2000000 in
theorem disk_bounds (n size : Int) (w : World) : Calls Try.prog 9 #[.int .i64 n, .int .i64 size] w fun e w' => e = .returned (.bool true) ∧ Ch [] w w' := by
  by_cases h1 : 20 < n
  · by_cases h2 : 100 < size
    · have d1 : decide (n > 20) = true := by simpa using h1
      have d2 : decide (size > 100) = true := by simpa using h2
      go_enter Try.func9, Try.ntmps9
      go_wp2_with fail
      refine (known3 w).mono ?_
      rintro e w0 ⟨rfl, hc0⟩
      go_wp2_with fail
      refine (new_any n (min 64 70000) [] w0 (by simp)).mono ?_
      rintro e w1 ⟨b, g, m, rfl, hb, hg, hm, hd, hc1⟩
      obtain ⟨N, S, hN, hS, e1, e2⟩ := bounds_size n (min 64 70000)
      have hs1 := sectors_any b g m [] _ w1 hd
      have hz1 := size_any b g m [] _ w1 hd
      rw [e1] at hs1
      rw [e2] at hz1
      have t1 : ((N : Int) == min (max n 1) 4096) = true := by rw [hN]; simp
      have t2 : ((S : Int) == min (max (min 64 70000) 64) 4096) = true := by rw [hS]; simp
      clear e1 e2 hN hS hd
      go_wp2_with fail
      refine hs1.mono ?_
      rintro e w' ⟨rfl, rfl⟩
      go_wp2_with fail
      refine hz1.mono ?_
      rintro e w' ⟨rfl, rfl⟩
      go_wp2_with fail
      go_ret
      exact ⟨rfl, hc0.trans hc1 (by simp)⟩
    · have d1 : decide (n > 20) = true := by simpa using h1
      have d2 : decide (size > 100) = false := by simpa using h2
      go_enter Try.func9, Try.ntmps9
      go_wp2_with fail
      refine (known3 w).mono ?_
      rintro e w0 ⟨rfl, hc0⟩
      go_wp2_with fail
      refine (new_any n (min size 70000) [] w0 (by simp)).mono ?_
      rintro e w1 ⟨b, g, m, rfl, hb, hg, hm, hd, hc1⟩
      obtain ⟨N, S, hN, hS, e1, e2⟩ := bounds_size n (min size 70000)
      have hs1 := sectors_any b g m [] _ w1 hd
      have hz1 := size_any b g m [] _ w1 hd
      rw [e1] at hs1
      rw [e2] at hz1
      have t1 : ((N : Int) == min (max n 1) 4096) = true := by rw [hN]; simp
      have t2 : ((S : Int) == min (max (min size 70000) 64) 4096) = true := by rw [hS]; simp
      clear e1 e2 hN hS hd
      go_wp2_with fail
      refine hs1.mono ?_
      rintro e w' ⟨rfl, rfl⟩
      go_wp2_with fail
      refine hz1.mono ?_
      rintro e w' ⟨rfl, rfl⟩
      go_wp2_with fail
      go_ret
      exact ⟨rfl, hc0.trans hc1 (by simp)⟩
  · have d1 : decide (n > 20) = false := by simpa using h1
    go_enter Try.func9, Try.ntmps9
    go_wp2_with fail
    refine (known3 w).mono ?_
    rintro e w0 ⟨rfl, hc0⟩
    go_wp2_with fail
    refine (new_any n (min size 70000) [] w0 (by simp)).mono ?_
    rintro e w1 ⟨b, g, m, rfl, hb, hg, hm, hd, hc1⟩
    obtain ⟨N, S, hN, hS, e1, e2⟩ := bounds_size n (min size 70000)
    have hs1 := sectors_any b g m [] _ w1 hd
    have hz1 := size_any b g m [] _ w1 hd
    rw [e1] at hs1
    rw [e2] at hz1
    have t1 : ((N : Int) == min (max n 1) 4096) = true := by rw [hN]; simp
    have t2 : ((S : Int) == min (max (min size 70000) 64) 4096) = true := by rw [hS]; simp
    clear e1 e2 hN hS hd
    go_wp2_with fail
    refine hs1.mono ?_
    rintro e w' ⟨rfl, rfl⟩
    go_wp2_with fail
    refine hz1.mono ?_
    rintro e w' ⟨rfl, rfl⟩
    go_wp2_with fail
    go_ret
    exact ⟨rfl, hc0.trans hc1 (by simp)⟩

end Go.Proofs.Ytbkncfedahifkaa
