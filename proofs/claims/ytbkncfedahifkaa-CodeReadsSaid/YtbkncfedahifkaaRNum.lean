/-
  Package code, the reader: the contract of num.
-/
import Derived.Test.YtbkncfedahifkaaReader
set_option linter.unusedVariables false
namespace Go.Proofs.Ytbkncfedahifkaa
open Go.RowKit

theorem Try.info5s : (Try.prog.info? 5).map (·.size) = some 1 := by kernel_rfl

/-- What num comes to. -/
def NumPost (w : World) (b g : Nat) (r : Option (Nat × List UInt8)) (e : Ending) (w' : World) : Prop :=
  Ch [b] w w' ∧ match r with
    | some (x, l) => e = .returned (.int .u64 (x : Int)) ∧ IsRd w' b g (some l)
    | none => e = .panicked stop ∧ ∃ l, IsRd w' b g (some l)

/-- At the head of a round. -/
def NumAt (w : World) (b g : Nat) (l : List UInt8) (k m : Nat) (wr : World) : Prop :=
  ∃ l', decN l = decG k m l' ∧ m < 128 ^ k ∧ k ≤ 10 ∧ IsRd wr b g (some l') ∧ Ch [b] w wr

theorem num_none {w wr : World} {b g : Nat} {l l' : List UInt8} {A : Option Addr} {n c : Nat} (hgl : g < wr.heap.size) (hch : Ch [b] w wr) (hd : decN l = none) (hb : wr.heap[b]? = some (.cells #[.slice A n c, .bool false] 109 (0, 0)))
    (hA : ∀ a, A = some a → a.block = g ∧ g ≠ b) (hrd : RdB wr A n c l') (hn : n ≤ 140737488355328) : NumPost w b g (decN l) (.panicked stop) wr :=
  ⟨hch, by rw [hd]; exact ⟨rfl, l', hgl, A, n, c, false, hb, hA, rfl, hrd, hn⟩⟩

theorem num_fail {w wr : World} {b g : Nat} {l l' : List UInt8} (hch : Ch [b] w wr) (hd : decN l = none) (h : IsRd wr b g (some l')) : NumPost w b g (decN l) (.panicked stop) wr :=
  ⟨hch, by rw [hd]; exact ⟨rfl, l', h⟩⟩
theorem num_done {w wr : World} {b g x : Nat} {l l' : List UInt8} (hch : Ch [b] w wr) (hd : decN l = some (x, l')) (h : IsRd wr b g (some l')) : NumPost w b g (decN l) (.returned (.int .u64 (x : Int))) wr :=
  ⟨hch, by rw [hd]; exact ⟨rfl, h⟩⟩

theorem rd_step {wr : World} {b g : Nat} {r : List UInt8} {A A' : Option Addr} {n c n' c' : Nat} (hgl : g < wr.heap.size) (hb : wr.heap[b]? = some (.cells #[.slice A n c, .bool false] 109 (0, 0)))
    (hA : ∀ a, A = some a → a.block = g ∧ g ≠ b) (hblk : ∀ a', A' = some a' → ∃ a, A = some a ∧ a'.block = a.block) (hrd : RdB wr A' n' c' r) (hn : n' ≤ 140737488355328) :
    IsRd (wr.setCell ⟨b, 0, none⟩ (.slice A' n' c')) b g (some r) := by
  have hA' : ∀ a', A' = some a' → a'.block = g ∧ g ≠ b := by
    intro a' ha'
    obtain ⟨a, h1, h2⟩ := hblk a' ha'
    rw [h2]
    exact hA a h1
  refine ⟨by simpa using hgl, A', n', c', false, ?_, hA', rfl, hrd.keep (F := [b]) ((Ch.refl _ _).setCell _ _ (by simp)) ?_, hn⟩
  · have := heap_setCell_same wr b 0 #[.slice A n c, .bool false] 109 (.slice A' n' c') hb
    simpa using this
  · intro a ha
    rw [(hA' a ha).1]
    simpa using (hA' a ha).2

/-- The number behind one byte more. -/
def numV (m k : Nat) (x : UInt8) : Nat := m + x.toNat % 128 * 128 ^ k
theorem num_val (m k : Nat) (x : UInt8) (hm : m < 128 ^ k) (hk : k < 10) (hx9 : k < 9 ∨ x.toNat % 128 ≤ 1) :
    bits BinOp.or IntKind.u64 (m : Int) (IntKind.u64.wrap (IntKind.u64.wrap (bits BinOp.andNot IntKind.u8 (x.toNat : Int) 128) * 2 ^ (7 * k))) = ((numV m k x : Nat) : Int) := by
  have key : ∀ z : Fin 256, IntKind.u64.wrap (bits BinOp.andNot IntKind.u8 (z.val : Int) 128) = ((z.val % 128 : Nat) : Int) := by decide +kernel
  have h1 := key ⟨x.toNat, x.toNat_lt⟩
  simp only at h1
  rw [h1]
  have hk2 : (2 : Int) ^ (7 * k) = ((128 ^ k : Nat) : Int) := by
    have h7 : (2 : Int) ^ 7 = ((128 : Nat) : Int) := by decide
    rw [Int.pow_mul, h7, ← Int.natCast_pow]
  rw [hk2]
  have hlt : x.toNat % 128 * 128 ^ k < 18446744073709551616 := by
    rcases hx9 with h9 | h9
    · have : 128 ^ k ≤ 128 ^ 8 := Nat.pow_le_pow_right (by omega) (by omega)
      have h3 : x.toNat % 128 * 128 ^ k ≤ 127 * 128 ^ 8 := Nat.mul_le_mul (by omega) this
      omega
    · have : 128 ^ k ≤ 128 ^ 9 := Nat.pow_le_pow_right (by omega) (by omega)
      have h3 : x.toNat % 128 * 128 ^ k ≤ 1 * 128 ^ 9 := Nat.mul_le_mul h9 this
      omega
  have hm64 : m < 18446744073709551616 := by
    have : 128 ^ k ≤ 128 ^ 9 := Nat.pow_le_pow_right (by omega) (by omega)
    omega
  have h4 : IntKind.u64.wrap (((x.toNat % 128 : Nat) : Int) * ((128 ^ k : Nat) : Int)) = ((x.toNat % 128 * 128 ^ k : Nat) : Int) := by
    rw [IntKind.wrap_u64, ← Int.natCast_mul]
    omega
  rw [h4, bits_or_u64_nat m _ hm64 hlt, numV]
  congr 1
  have h128 : (128 : Nat) ^ k = 2 ^ (7 * k) := by rw [Nat.pow_mul]
  rw [h128] at hm ⊢
  rw [Nat.or_comm, ← Nat.shiftLeft_eq, ← Nat.shiftLeft_add_eq_or_of_lt hm, Nat.add_comm]
theorem num_val9 (m : Nat) (x : UInt8) (hm : m < 128 ^ 9) (hx9 : x.toNat % 128 ≤ 1) :
    bits BinOp.or IntKind.u64 (m : Int) (IntKind.u64.wrap (IntKind.u64.wrap (bits BinOp.andNot IntKind.u8 (x.toNat : Int) 128) * 9223372036854775808)) = ((numV m 9 x : Nat) : Int) := by
  have h := num_val m 9 x hm (by omega) (.inr hx9)
  have e : (2 : Int) ^ (7 * 9) = 9223372036854775808 := by decide
  rwa [e] at h
theorem and_more_low (x : UInt8) (h : x.toNat < 128) : (bits BinOp.and IntKind.u8 (x.toNat : Int) 128 == 0) = true := by
  have key : ∀ z : Fin 256, z.val < 128 → (bits BinOp.and IntKind.u8 (z.val : Int) 128 == 0) = true := by decide +kernel
  exact key ⟨x.toNat, x.toNat_lt⟩ h
theorem and_more_high (x : UInt8) (h : ¬ x.toNat < 128) : (bits BinOp.and IntKind.u8 (x.toNat : Int) 128 == 0) = false := by
  have key : ∀ z : Fin 256, ¬ z.val < 128 → (bits BinOp.and IntKind.u8 (z.val : Int) 128 == 0) = false := by decide +kernel
  exact key ⟨x.toNat, x.toNat_lt⟩ h

set_option maxRecDepth 100000 in
set_option maxHeartbeats 1600000 in
theorem num_any (b g : Nat) (l : List UInt8) (w : World) (h : IsRd w b g (some l)) :
    Calls Try.prog 73 #[.pointer (some ⟨b, 0, none⟩)] w (NumPost w b g (decN l)) := by
  go_enter Try.func73, Try.ntmps73
  go_wp2
  go_loopw [3, 4] (fun n i wr => ∃ k m : Nat, i = .int .i64 k ∧ n = .int .u64 m ∧ NumAt w b g l k m wr) (fun _ i _ => 10 - (intOf i).toNat)
  case atStart => exact ⟨0, 0, rfl, rfl, l, rfl, by simp, by omega, h, Ch.refl _ _⟩
  case round =>
    obtain ⟨k, m, rfl, rfl, l', hd, hm, hk, ⟨hgl, A, n, c, f, hb, hA, rfl, hrd, hn⟩, hch⟩ := hrel
    have hbc := cell_at hb 0 rfl
    have hbf := free_at hb 0
    have hl' := hrd.length
    have Hd := Lib.hid hd; clear hd
    have Hm := Lib.hid hm; clear hm
    have Hgl := Lib.hid hgl
    by_cases hk10 : k < 10
    · cases l' with
      | nil =>
        have hn0 : n = 0 := by simpa using hl'.symm
        subst hn0
        clear hl'
        go_wp2_with fail
        refine (must_no _).mono ?_
        rintro e w' ⟨rfl, rfl⟩
        exact ⟨rfl, num_none hgl hch (by rw [Hd.out]; rfl) hb hA hrd hn⟩
      | cons x r =>
        have hnp : 0 < n := by rw [← hl']; simp
        have hnp' : (0 : Int) < (n : Int) := by omega
        obtain ⟨b0, o0, rfl, hcell⟩ := hrd.cell hnp
        have hx := hcell 0 (by simp)
        simp only [List.getElem_cons_zero, Nat.add_zero] at hx
        obtain ⟨i0, hi0, hsz0⟩ := Option.map_eq_some_iff.1 Try.info5s
        obtain ⟨A', hcut, hrd', hblk⟩ := cut_from (P := Try.prog) 28 5 Try.underlying28 hi0 hsz0 (some ⟨b0, o0, none⟩) n c 1 (by omega)
        have hrd1 := hrd' wr _ hrd
        have hcut' : ∀ W : World, (Instr.slice 28 (.slice (some ⟨b0, o0, none⟩) n c) (some (.int .i64 1)) none none).run Try.prog W = .ok (.slice A' (n - 1) (c - 1)) W := fun W => hcut .i64 W
        clear hcut hrd' hcell hl'
        have hx8 := u8_lt x
        have hw1 : Ch [b] w (wr.setCell ⟨b, 0, none⟩ (.slice A' (n - 1) (c - 1))) := hch.setCell _ _ (by simp)
        have hnext : IsRd (wr.setCell ⟨b, 0, none⟩ (.slice A' (n - 1) (c - 1))) b g (some r) := rd_step hgl hb hA hblk hrd1 (by omega)
        by_cases h9 : k = 9 ∧ 1 < x.toNat
        · obtain ⟨rfl, h1x⟩ := h9
          have h1x' : ((x.toNat : Int) ≤ 1) = False := by simp; omega
          go_wp2_with fail
          refine (must_yes _).mono ?_
          rintro e w' ⟨rfl, rfl⟩
          go_wp2_with fail
          refine (must_no _).mono ?_
          rintro e w' ⟨rfl, rfl⟩
          exact ⟨rfl, num_fail hw1 (by rw [Hd.out]; simp [decG, h1x]) hnext⟩
        · have h9' : k < 9 ∨ (k = 9 ∧ x.toNat ≤ 1) := by omega
          have hdec : decG k m (x :: r) = if x.toNat < 128 then (if x.toNat = 0 ∧ k ≠ 0 then none else some (m + x.toNat * 128 ^ k, r)) else decG (k + 1) (m + (x.toNat - 128) * 128 ^ k) r := by
            rw [decG, if_neg (by omega)]
          have Hdec := Lib.hid hdec; clear hdec
          have hval := num_val m k x Hm.out hk10 (by omega)
          have Hval := Lib.hid hval; clear hval
          by_cases hx128 : x.toNat < 128
          · have hand := and_more_low x hx128
            by_cases hx0 : x.toNat = 0
            · have Hx0 := Lib.hid hx0
              have hne : ((x.toNat : Int) != 0) = false := by simp [hx0]
              clear hx0
              by_cases hk0 : k = 0
              · have hke : ((k : Int) == 0) = true := by simp [hk0]
                have Hk0 := Lib.hid hk0
                clear hk0
                have h9'' : k < 9 := by have := Hk0.out; omega
                go_wp2_with fail
                refine (must_yes _).mono ?_
                rintro e w' ⟨rfl, rfl⟩
                go_wp2_with fail
                refine (must_yes _).mono ?_
                rintro e w' ⟨rfl, rfl⟩
                go_wp2_with fail
                refine (must_yes _).mono ?_
                rintro e w' ⟨rfl, rfl⟩
                rw [Hval.out]
                go_wp2_with fail
                go_ret
                refine num_done hw1 ?_ hnext
                rw [Hd.out, Hdec.out, if_pos hx128, if_neg (fun h => h.2 Hk0.out), numV, Nat.mod_eq_of_lt hx128]
              · have hke : ((k : Int) == 0) = false := by simp; omega
                rcases (show k < 9 ∨ (k = 9 ∧ decide ((x.toNat : Int) ≤ 1) = true) from by rcases h9' with h | ⟨h, h'⟩; exact .inl h; exact .inr ⟨h, by simp; omega⟩) with h9' | ⟨rfl, hle⟩
                all_goals
                  go_wp2_with fail
                  refine (must_yes _).mono ?_
                  rintro e w' ⟨rfl, rfl⟩
                  go_wp2_with fail
                  refine (must_yes _).mono ?_
                  rintro e w' ⟨rfl, rfl⟩
                  go_wp2_with fail
                  refine (must_no _).mono ?_
                  rintro e w' ⟨rfl, rfl⟩
                  exact ⟨rfl, num_fail hw1 (by rw [Hd.out, Hdec.out, if_pos hx128, if_pos ⟨Hx0.out, by omega⟩]) hnext⟩
            · have hne : ((x.toNat : Int) != 0) = true := by simp; omega
              rcases (show k < 9 ∨ (k = 9 ∧ decide ((x.toNat : Int) ≤ 1) = true) from by rcases h9' with h | ⟨h, h'⟩; exact .inl h; exact .inr ⟨h, by simp; omega⟩) with h9' | ⟨rfl, hle⟩
              all_goals
                go_wp2_with fail
                refine (must_yes _).mono ?_
                rintro e w' ⟨rfl, rfl⟩
                go_wp2_with fail
                refine (must_yes _).mono ?_
                rintro e w' ⟨rfl, rfl⟩
                go_wp2_with fail
                refine (must_yes _).mono ?_
                rintro e w' ⟨rfl, rfl⟩
                first | rw [Hval.out] | rw [num_val9 m x Hm.out (by have := of_decide_eq_true hle; omega)]
                go_wp2_with fail
                go_ret
                refine num_done hw1 ?_ hnext
                rw [Hd.out, Hdec.out, if_pos hx128, if_neg (fun h => hx0 h.1), numV, Nat.mod_eq_of_lt hx128]
          · have hand := and_more_high x hx128
            have h9'' : k < 9 := by omega
            go_wp2_with fail
            refine (must_yes _).mono ?_
            rintro e w' ⟨rfl, rfl⟩
            go_wp2_with fail
            refine (must_yes _).mono ?_
            rintro e w' ⟨rfl, rfl⟩
            go_wp2_with fail
            go_roundw
            case rel =>
              refine ⟨k + 1, numV m k x, by go_num, by rw [Hval.out], r, ?_, ?_, by omega, hnext, hw1⟩
              · rw [Hd.out, Hdec.out, if_neg hx128, numV, show x.toNat % 128 = x.toNat - 128 from by omega]
              · have h1 : x.toNat % 128 * 128 ^ k ≤ 127 * 128 ^ k := Nat.mul_le_mul_right _ (by omega)
                have h2 := Hm.out
                rw [Nat.pow_succ, numV]
                omega
            case measure => simp [intOf]; omega
    · go_wp2_with fail
      refine (must_no _).mono ?_
      rintro e w' ⟨rfl, rfl⟩
      refine ⟨rfl, num_fail hch ?_ ⟨hgl, A, n, c, false, hb, hA, rfl, hrd, hn⟩⟩
      rw [Hd.out]
      cases l' with
      | nil => rfl
      | cons x r => rw [decG, if_pos (by omega)]

end Go.Proofs.Ytbkncfedahifkaa
