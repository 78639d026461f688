/-
  Place: a number from 0 to n - 1 out of any number.
-/
import Derived.Test.YtbkncfedahifkaaBase
set_option linter.unusedVariables false
namespace Go.Proofs.Ytbkncfedahifkaa
open Go.RowKit

/-! ### Place -/
theorem place_num (a : Int) (n : Nat) (w : World) (h0 : -9223372036854775808 ≤ a) (h1 : a ≤ 9223372036854775807) (hn : 0 < n) (hm : n ≤ 1000000) :
    Calls Try.prog 40 #[.int .i64 a, .int .i64 (n : Int)] w fun e w' => e = .returned (.int .i64 (a % (n : Int))) ∧ w = w' := by
  have hz : (n : Int) ≠ 0 := by omega
  have hz1 : ¬ ((n : Int) = -1) := by omega
  have hr0 := Int.emod_nonneg a hz
  have hr1 := Int.emod_lt_of_pos a (show (0 : Int) < n by omega)
  by_cases ha : 0 ≤ a
  · have e1 : a.tmod n = a % n := Int.tmod_eq_emod_of_nonneg ha
    generalize hm : a % (n : Int) = m at *
    clear hm
    go_enter Try.func40, Try.ntmps40
    go_wp2
    go_ret
    exact ⟨rfl, rfl⟩
  · have e1 : a.tmod n = -((-a) % n) := by
      rw [← Int.tmod_eq_emod_of_nonneg (show 0 ≤ -a by omega), Int.neg_tmod, Int.neg_neg]
    have h2 := Int.emod_nonneg (-a) hz
    have h3 := Int.emod_lt_of_pos (-a) (show (0 : Int) < n by omega)
    have e2 : a % n = (-((-a) % n)) % n := by
      rw [← e1]
      have := Int.mul_tdiv_add_tmod a n
      conv => lhs; rw [← this]
      rw [Int.add_comm, Int.add_mul_emod_self_left]
    by_cases h4 : (-a) % (n : Int) = 0
    · rw [h4] at e1 e2
      simp only [Int.neg_zero, Int.zero_emod] at e1 e2
      rw [e2]
      clear e2 h2 h3 h4 hr0 hr1
      go_enter Try.func40, Try.ntmps40
      go_wp2
      go_ret
      exact ⟨rfl, rfl⟩
    · have e3 : a % n = -((-a) % n) + n := by
        rw [e2, ← Int.add_emod_right, Int.emod_eq_of_lt (by omega) (by omega)]
      rw [e3]
      generalize hm : (-a) % (n : Int) = m at *
      clear hm e2 e3 hr0 hr1
      have h5 : -m < 0 := by omega
      go_enter Try.func40, Try.ntmps40
      go_wp2
      go_ret
      exact ⟨rfl, rfl⟩

end Go.Proofs.Ytbkncfedahifkaa
