/-
  The reference's reader: Num, Int, Text, Bool.
-/
import Derived.Test.YtbkncfedahifkaaRSteps
set_option linter.unusedVariables false
namespace Go.Proofs.Ytbkncfedahifkaa
open Go.RowKit

theorem Rd.keep0 {sz : Nat} {w w' : World} {A : Option Addr} {n c : Nat} {xs : List Value} (h : Rd sz w A n c xs) {F : List Nat} (hc : Ch F w w') (hF : 0 < n → ∀ a, A = some a → a.block ∉ F) : Rd sz w' A n c xs :=
  ⟨h.len, h.cap, h.max, fun hn => by
    obtain ⟨b, o, e, hcell⟩ := h.cells hn
    exact ⟨b, o, e, fun j u hu => hc.cell (hcell j u hu) (hF hn ⟨b, o, none⟩ e)⟩⟩
/-- The reference's reader at block b; the bytes that are left (none: it failed); they lie in block g. -/
def IsRR (w : World) (b g : Nat) (st : Option (List UInt8)) : Prop :=
  ∃ A n c f, w.heap[b]? = some (.cells #[.slice A n c, .bool f] 53 (0, 0)) ∧ (0 < n → ∀ a, A = some a → a.block = g ∧ g ≠ b) ∧
    (match st with
      | none => f = true
      | some l => f = false ∧ RdB w A n c l ∧ n ≤ 140737488355328)
theorem IsRR.keep {w w' : World} {b g : Nat} {st : Option (List UInt8)} {F : List Nat} (h : IsRR w b g st) (hc : Ch F w w') (hb : b ∉ F) (hg : g ∉ F) : IsRR w' b g st := by
  obtain ⟨A, n, c, f, h1, h2, h3⟩ := h
  refine ⟨A, n, c, f, hc.at_ h1 hb, h2, ?_⟩
  cases st with
  | none => exact h3
  | some l => exact ⟨h3.1, h3.2.1.keep0 hc (fun hn a ha => by rw [(h2 hn a ha).1]; exact hg), h3.2.2⟩
def RRPost (w : World) (b g : Nat) (zero : Value) (r : Option (Value × List UInt8)) (e : Ending) (w' : World) : Prop :=
  e = .returned (ans zero r) ∧ IsRR w' b g (r.map (·.2)) ∧ Ch [b] w w'

theorem rr_step {wr : World} {b g : Nat} {r : List UInt8} {A A' : Option Addr} {n c n' c' : Nat} (hb : wr.heap[b]? = some (.cells #[.slice A n c, .bool false] 53 (0, 0)))
    (hA : 0 < n → ∀ a, A = some a → a.block = g ∧ g ≠ b) (hblk : ∀ a', A' = some a' → ∃ a, A = some a ∧ a'.block = a.block) (hrd : RdB wr A' n' c' r) (hn : n' ≤ 140737488355328) (hnn : 0 < n' → 0 < n) :
    IsRR (wr.setCell ⟨b, 0, none⟩ (.slice A' n' c')) b g (some r) := by
  have hA' : 0 < n' → ∀ a', A' = some a' → a'.block = g ∧ g ≠ b := by
    intro hn' a' ha'
    obtain ⟨a, h1, h2⟩ := hblk a' ha'
    rw [h2]
    exact hA (hnn hn') a h1
  refine ⟨A', n', c', false, ?_, hA', rfl, hrd.keep0 (F := [b]) ((Ch.refl _ _).setCell _ _ (by simp)) ?_, hn⟩
  · have := heap_setCell_same wr b 0 #[.slice A n c, .bool false] 53 (.slice A' n' c') hb
    simpa using this
  · intro hn' a ha
    rw [(hA' hn' a ha).1]
    simpa using (hA' hn' a ha).2
theorem rr_bad {w : World} {b g : Nat} {A : Option Addr} {n c : Nat} {f : Bool} (hb : w.heap[b]? = some (.cells #[.slice A n c, .bool f] 53 (0, 0))) (hA : 0 < n → ∀ a, A = some a → a.block = g ∧ g ≠ b) :
    IsRR (w.setCell ⟨b, 1, none⟩ (.bool true)) b g none ∧ Ch [b] w (w.setCell ⟨b, 1, none⟩ (.bool true)) := by
  refine ⟨⟨A, n, c, true, ?_, hA, rfl⟩, (Ch.refl _ _).setCell _ _ (by simp)⟩
  have := heap_setCell_same w b 1 #[.slice A n c, .bool f] 53 (.bool true) hb
  simpa using this

theorem and_low (x : UInt8) : IntKind.u64.wrap (bits BinOp.and IntKind.u8 (x.toNat : Int) 127) = ((x.toNat % 128 : Nat) : Int) := by
  have key : ∀ z : Fin 256, IntKind.u64.wrap (bits BinOp.and IntKind.u8 (z.val : Int) 127) = ((z.val % 128 : Nat) : Int) := by decide +kernel
  exact key ⟨x.toNat, x.toNat_lt⟩
theorem andNot_low (x : UInt8) : IntKind.u64.wrap (bits BinOp.andNot IntKind.u8 (x.toNat : Int) 128) = ((x.toNat % 128 : Nat) : Int) := by
  have key : ∀ z : Fin 256, IntKind.u64.wrap (bits BinOp.andNot IntKind.u8 (z.val : Int) 128) = ((z.val % 128 : Nat) : Int) := by decide +kernel
  exact key ⟨x.toNat, x.toNat_lt⟩
theorem rnum_val (m k : Nat) (x : UInt8) (hm : m < 128 ^ k) (hk : k < 10) (hx9 : k < 9 ∨ x.toNat % 128 ≤ 1) :
    bits BinOp.or IntKind.u64 (m : Int) (IntKind.u64.wrap (IntKind.u64.wrap (bits BinOp.and IntKind.u8 (x.toNat : Int) 127) * 2 ^ (7 * k))) = ((numV m k x : Nat) : Int) := by
  rw [and_low, ← andNot_low]
  exact num_val m k x hm hk hx9

/-- At the head of a round. -/
def RNumAt (l : List UInt8) (k m : Nat) : Prop := decN l = decG k m (l.drop k) ∧ m < 128 ^ k ∧ k ≤ 10 ∧ k ≤ l.length

set_option maxRecDepth 100000 in
set_option maxHeartbeats 1600000 in
theorem rrnum (b g : Nat) (st : Option (List UInt8)) (w : World) (h : IsRR w b g st) :
    Calls Try.prog 34 #[.pointer (some ⟨b, 0, none⟩)] w (RRPost w b g (.int .u64 0) (st.bind rNum)) := by
  obtain ⟨A, n, c, f, hb, hA, hst⟩ := h
  have hb0 := cell_at hb 0 rfl
  have hb1 := cell_at hb 1 rfl
  have hf0 := free_at hb 0
  have hf1 := free_at hb 1
  obtain ⟨hbad, hbadc⟩ := rr_bad hb hA
  cases st with
  | none =>
    obtain rfl : f = true := hst
    go_enter Try.func34, Try.ntmps34
    go_wp2_with fail
    go_loop [3, 4, 5] (fun n s i => n = .int .u64 0 ∧ s = .int .i64 0 ∧ i = .int .i64 0) (fun _ _ _ => 0)
    case atStart => exact ⟨rfl, rfl, rfl⟩
    case round =>
      obtain ⟨rfl, rfl, rfl⟩ := hrel
      go_wp2_with fail
      go_ret
      exact ⟨rfl, hbad, hbadc⟩
  | some l =>
    obtain ⟨rfl, hrd, hn⟩ := hst
    have hl := hrd.length
    have Hrd := Lib.hid hrd
    clear hrd
    go_enter Try.func34, Try.ntmps34
    go_wp2_with fail
    go_loop [3, 4, 5] (fun n s i => ∃ k m : Nat, n = .int .u64 (m : Int) ∧ s = .int .i64 (7 * (k : Int)) ∧ i = .int .i64 (k : Int) ∧ RNumAt l k m) (fun _ _ i => 10 - (intOf i).toNat)
    case atStart => exact ⟨0, 0, rfl, rfl, rfl, rfl, by simp, by omega, by omega⟩
    case round =>
      obtain ⟨k, m, rfl, rfl, rfl, hat⟩ := hrel
      have hk := hat.2.2.1
      have hkl := hat.2.2.2
      have Hat := Lib.hid hat
      clear hat
      by_cases hkn : n ≤ k
      · have hno : (some l).bind rNum = none := by
          rw [Option.bind_some, rNum, Hat.out.1, List.drop_of_length_le (by omega)]
          rfl
        rw [hno]
        go_wp2_with fail
        go_ret
        exact ⟨rfl, hbad, hbadc⟩
      · have hk' : k < l.length := by omega
        have hdk := List.drop_eq_getElem_cons hk'
        by_cases hk10 : 10 ≤ k
        · have hno : (some l).bind rNum = none := by
            rw [Option.bind_some, rNum, Hat.out.1, hdk, decG, if_pos (by omega)]
            rfl
          rw [hno]
          go_wp2_with fail
          go_ret
          exact ⟨rfl, hbad, hbadc⟩
        · obtain ⟨ab, ao, rfl, hcell⟩ := Hrd.out.cell (by omega)
          have hx := hcell k hk'
          clear hcell
          generalize hxe : l[k] = x at *
          have Hdk := Lib.hid hdk
          clear hdk
          have hx8 := u8_lt x
          have hx0 := u8_ge x
          by_cases h9 : k = 9 ∧ 1 < x.toNat
          · obtain ⟨rfl, h1x⟩ := h9
            have hno : (some l).bind rNum = none := by
              rw [Option.bind_some, rNum, Hat.out.1, Hdk.out, decG, if_pos (by omega)]
              rfl
            rw [hno]
            have h1x' : decide ((x.toNat : Int) > 1) = true := by simp; omega
            go_wp2_with fail
            go_ret
            exact ⟨rfl, hbad, hbadc⟩
          · have hdec : decN l = if x.toNat < 128 then (if x.toNat = 0 ∧ k ≠ 0 then none else some (m + x.toNat * 128 ^ k, l.drop (k + 1))) else decG (k + 1) (m + (x.toNat - 128) * 128 ^ k) (l.drop (k + 1)) := by
              rw [Hat.out.1, Hdk.out, decG, if_neg (by omega)]
            have Hdec := Lib.hid hdec; clear hdec
            have hval := rnum_val m k x Hat.out.2.1 (by omega) (by omega)
            have Hval := Lib.hid hval; clear hval
            have hk9 : k < 9 ∨ (k = 9 ∧ decide ((x.toNat : Int) > 1) = false) := by
              by_cases h : k < 9
              · exact .inl h
              · exact .inr ⟨by omega, by simp; omega⟩
            by_cases hx128 : x.toNat < 128
            · have hlt : ((x.toNat : Int) < 128) := by omega
              by_cases hbadz : x.toNat = 0 ∧ k ≠ 0
              · have hno : (some l).bind rNum = none := by
                  rw [Option.bind_some, rNum, Hdec.out, if_pos hx128, if_pos hbadz]
                  rfl
                rw [hno]
                have hz : ((x.toNat : Int) == 0) = true := by simp; omega
                have hk0 : (0 : Int) < (k : Int) := by omega
                rcases hk9 with hk9 | ⟨rfl, hk9⟩
                · go_wp2_with fail
                  go_ret
                  exact ⟨rfl, hbad, hbadc⟩
                · go_wp2_with fail
                  go_ret
                  exact ⟨rfl, hbad, hbadc⟩
              · have hsome : (some l).bind rNum = some (.int .u64 ((numV m k x : Nat) : Int), l.drop (k + 1)) := by
                  rw [Option.bind_some, rNum, Hdec.out, if_pos hx128, if_neg hbadz, Option.map_some, numV, Nat.mod_eq_of_lt hx128]
                rw [hsome]
                obtain ⟨i0, hi0, hsz0⟩ := Option.map_eq_some_iff.1 Try.info5s
                obtain ⟨A', hcut, hrd', hblk⟩ := cut_from (P := Try.prog) 28 5 Try.underlying28 hi0 hsz0 (some ⟨ab, ao, none⟩) n c (k + 1) (by omega)
                have hrd1 : RdB w A' (n - (k + 1)) (c - (k + 1)) (l.drop (k + 1)) := by have := hrd' w _ Hrd.out; rwa [Nat.mul_one, bvs_drop] at this
                have hcut' : ∀ W : World, (Instr.slice 28 (.slice (some ⟨ab, ao, none⟩) n c) (some (.int .i64 ((k : Int) + 1))) none none).run Try.prog W = .ok (.slice A' (n - (k + 1)) (c - (k + 1))) W := fun W => hcut .i64 W
                have hnext := rr_step hb hA hblk hrd1 (by omega) (by omega)
                have hw1 : Ch [b] w (w.setCell ⟨b, 0, none⟩ (.slice A' (n - (k + 1)) (c - (k + 1)))) := (Ch.refl _ _).setCell _ _ (by simp)
                clear hcut hrd'
                by_cases hz0 : x.toNat = 0
                · have hk0 : k = 0 := by omega
                  have hz : ((x.toNat : Int) == 0) = true := by rw [beq_iff_eq]; omega
                  have hk0' : ¬ (0 : Int) < (k : Int) := by omega
                  have hk9' : k < 9 := by omega
                  have Hk0 := Lib.hid hk0
                  clear hk9 hz0 hbadz hk0
                  go_wp2_with fail
                  rw [Hval.out]
                  go_ret
                  exact ⟨rfl, hnext, hw1⟩
                · have hz : ((x.toNat : Int) == 0) = false := by rw [beq_eq_false_iff_ne]; omega
                  clear hbadz
                  have Hz0 := Lib.hid hz0
                  clear hz0
                  rcases hk9 with hk9 | ⟨rfl, hk9⟩
                  · go_wp2_with fail
                    rw [Hval.out]
                    go_ret
                    exact ⟨rfl, hnext, hw1⟩
                  · have hv := Hval.out
                    rw [show (2 : Int) ^ (7 * 9) = 9223372036854775808 from by decide] at hv
                    have Hv := Lib.hid hv
                    clear hv
                    have hcut9 : ∀ W : World, (Instr.slice 28 (.slice (some ⟨ab, ao, none⟩) n c) (some (.int .i64 10)) none none).run Try.prog W = .ok (.slice A' (n - 10) (c - 10)) W := hcut'
                    have hnext9 : IsRR (w.setCell ⟨b, 0, none⟩ (.slice A' (n - 10) (c - 10))) b g (some (l.drop 10)) := hnext
                    have hw9 : Ch [b] w (w.setCell ⟨b, 0, none⟩ (.slice A' (n - 10) (c - 10))) := hw1
                    clear hcut' hnext hw1
                    go_wp2_with fail
                    rw [Hv.out]
                    go_ret
                    exact ⟨rfl, hnext9, hw9⟩
            · have hlt : ¬ ((x.toNat : Int) < 128) := by omega
              have hk9' : k < 9 := by omega
              clear hk9
              go_wp2_with fail
              go_round
              case rel =>
                refine ⟨k + 1, numV m k x, by rw [Hval.out], ?_, by go_num, ?_, ?_, by omega, by omega⟩
                · go_num
                · rw [Hdec.out, if_neg hx128, numV, show x.toNat % 128 = x.toNat - 128 from by omega]
                · have h1 : x.toNat % 128 * 128 ^ k ≤ 127 * 128 ^ k := Nat.mul_le_mul_right _ (by omega)
                  have h2 := Hat.out.2.1
                  rw [Nat.pow_succ, numV]
                  omega
              case measure => simp [intOf]; omega

end Go.Proofs.Ytbkncfedahifkaa
