/-
  Package wal: get.
-/
import Derived.Test.YtbkncfedahifkaaWPut
set_option linter.unusedVariables false
set_option linter.unusedSimpArgs false
namespace Go.Proofs.Ytbkncfedahifkaa
open Go.RowKit Go.Maps

/-- A byte of a slice that is read. -/
theorem RdB.cell_at0 {w : World} {A : Option Addr} {n c : Nat} {l : List UInt8} (h : RdB w A n c l) (i : Nat) (hi : i < l.length) : ∃ b o, A = some ⟨b, o, none⟩ ∧ w.cell? ⟨b, o + i, none⟩ = some (.int .u8 (l[i].toNat : Int)) := by
  obtain ⟨b, o, e, hc⟩ := h.cell (by rw [← h.length]; omega)
  exact ⟨b, o, e, hc i hi⟩
theorem get_step (m : Nat) (x : UInt8) (hm : m * 256 + x.toNat < 18446744073709551616) : bits BinOp.or IntKind.u64 ((m : Int) * 256) (x.toNat : Int) = ((m * 256 + x.toNat : Nat) : Int) := by
  have hx : x.toNat < 2 ^ 8 := x.toNat_lt
  have e : (m : Int) * 256 = ((m * 256 : Nat) : Int) := by omega
  have a1 : m * 256 < 18446744073709551616 := Nat.lt_of_le_of_lt (Nat.le_add_right _ _) hm
  have a2 : x.toNat < 18446744073709551616 := Nat.lt_of_le_of_lt (Nat.le_add_left _ _) hm
  have h := Nat.shiftLeft_add_eq_or_of_lt (a := m) hx
  have h8 : (2 : Nat) ^ 8 = 256 := by decide
  rw [Nat.shiftLeft_eq, h8] at h
  rw [e, bits_or_u64_nat _ _ a1 a2, h]

theorem deN_take_lt (l : List UInt8) (hl : l.length ≤ 8) (j : Nat) : deN (l.take j) < 18446744073709551616 := by
  have h := deN_lt (l.take j)
  have h2 : (l.take j).length ≤ 8 := by rw [List.length_take]; omega
  have h3 : 256 ^ (l.take j).length ≤ 256 ^ 8 := Nat.pow_le_pow_right (by omega) h2
  omega

set_option maxRecDepth 100000 in
set_option maxHeartbeats 1000000 in
theorem get_any (A : Option Addr) (n c : Nat) (l : List UInt8) (w : World) (hr : RdB w A n c l) (hn : n ≤ 8) :
    Calls Try.prog 103 #[.slice A n c] w fun e w' => e = .returned (.int .u64 (deN l : Int)) ∧ w = w' := by
  have hl := hr.length
  go_enter Try.func103, Try.ntmps103
  go_wp2_with fail
  go_loop [3, 8] (fun v i => ∃ j : Nat, j ≤ n ∧ i = .int .i64 j ∧ v = .int .u64 (deN (l.take j) : Int)) (fun _ i => n - (intOf i).toNat)
  case atStart => exact ⟨0, by omega, rfl, by simp [deN]⟩
  case round =>
    obtain ⟨j, hj, rfl, rfl⟩ := hrel
    by_cases hlt : j < n
    · obtain ⟨b, o, rfl, hcell⟩ := hr.cell_at0 j (by omega)
      have hx := (l[j]'(by omega)).toNat_lt
      have hlt2 := deN_take_lt l (by omega) j
      have hlt3 := deN_take_lt l (by omega) (j + 1)
      have hsn : deN (l.take (j + 1)) = deN (l.take j) * 256 + (l[j]'(by omega)).toNat := by rw [List.take_succ_eq_append_getElem (by omega), deN_snoc]
      rw [hsn] at hlt3
      have hor := get_step (deN (l.take j)) (l[j]'(by omega)) hlt3
      have Hsn := Lib.hid hsn
      clear hsn
      generalize hz : l[j]'(by omega) = z at *
      generalize hm : deN (l.take j) = m at *
      have hwr : IntKind.u64.wrap ((m : Int) * 256) = ((m * 256 : Nat) : Int) := by rw [IntKind.wrap_u64]; omega
      clear hz hm
      have Hor := Lib.hid hor
      clear hor
      go_wp2_with fail
      rw [Hor.out]
      refine ⟨⟨j + 1, by omega, by go_num, by rw [Hsn.out]⟩, ?_⟩
      simp [intOf]
      omega
    · obtain rfl : j = n := by omega
      clear hlt hj
      rw [List.take_of_length_le (by omega)]
      go_wp2_with fail
      go_ret
      exact ⟨rfl, rfl⟩

end Go.Proofs.Ytbkncfedahifkaa
