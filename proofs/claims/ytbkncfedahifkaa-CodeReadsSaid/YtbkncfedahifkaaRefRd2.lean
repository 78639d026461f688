/-
  The reference's reader: Int, whole, Text, Bool.
-/
import Derived.Test.YtbkncfedahifkaaRefRd
set_option linter.unusedVariables false
namespace Go.Proofs.Ytbkncfedahifkaa
open Go.RowKit

theorem rr_int_val {w w' : World} {b g : Nat} {z y : Int} {r : Option (Value × List UInt8)} {r2 : Option (List UInt8)} (hz : ans (.int .i64 0) r = .int .i64 y) (hzy : z = y) (h2 : r.map (·.2) = r2) (h : IsRR w' b g r2) (hc : Ch [b] w w') : RRPost w b g (.int .i64 0) r (.returned (.int .i64 z)) w' := by
  subst h2 hzy
  exact ⟨by rw [hz], h, hc⟩

set_option maxRecDepth 100000 in
theorem rrint (b g : Nat) (st : Option (List UInt8)) (w : World) (h : IsRR w b g st) :
    Calls Try.prog 74 #[.pointer (some ⟨b, 0, none⟩)] w (RRPost w b g (.int .i64 0) (st.bind rInt)) := by
  have hN := rrnum b g st w h
  cases hd : st.bind decN with
  | none =>
    have e1 : st.bind rNum = none := by cases st with | none => rfl | some l => simp only [Option.bind_some] at hd ⊢; rw [rNum, hd]; rfl
    have e2 : st.bind rInt = none := by cases st with | none => rfl | some l => simp only [Option.bind_some] at hd ⊢; rw [rInt, hd]; rfl
    rw [e1] at hN
    rw [e2]
    clear e1 e2 hd h
    go_enter Try.func74, Try.ntmps74
    go_wp2_with fail
    refine hN.mono ?_
    rintro e w1 ⟨rfl, h1, h2⟩
    try simp only [ans]
    go_wp2_with fail
    go_ret
    exact ⟨rfl, h1, h2⟩
  | some p =>
    obtain ⟨x, r⟩ := p
    have hx : x < 18446744073709551616 := by
      cases st with
      | none => simp at hd
      | some l => exact decN_lt (by simpa using hd)
    have e1 : st.bind rNum = some (.int .u64 (x : Int), r) := by cases st with | none => simp at hd | some l => simp only [Option.bind_some] at hd ⊢; rw [rNum, hd]; rfl
    have e2 : st.bind rInt = some (.int .i64 (unzz x), r) := by cases st with | none => simp at hd | some l => simp only [Option.bind_some] at hd ⊢; rw [rInt, hd]; rfl
    rw [e1] at hN
    rw [e2]
    try simp only [ans] at hN
    clear e1 e2 hd h
    by_cases hp : x % 2 = 1
    · have hu : unzz x = -((x / 2 : Nat) : Int) - 1 := by unfold unzz; rw [if_pos hp]
      have hpb : (bits BinOp.and IntKind.u64 (x : Int) 1 == 1) = true := by rw [Lib.u64_and1 _ (by omega) (by omega), beq_iff_eq]; omega
      have Hu := Lib.hid hu
      clear hu hp
      go_enter Try.func74, Try.ntmps74
      go_wp2_with fail
      refine hN.mono ?_
      rintro e w1 ⟨rfl, h1, h2⟩
      try simp only [ans]
      go_wp2_with fail
      go_ret
      exact rr_int_val rfl (by rw [Hu.out]; omega) rfl h1 h2
    · have hu : unzz x = ((x / 2 : Nat) : Int) := by unfold unzz; rw [if_neg hp]
      have hpb : (bits BinOp.and IntKind.u64 (x : Int) 1 == 1) = false := by rw [Lib.u64_and1 _ (by omega) (by omega), beq_eq_false_iff_ne]; omega
      have Hu := Lib.hid hu
      clear hu hp
      go_enter Try.func74, Try.ntmps74
      go_wp2_with fail
      refine hN.mono ?_
      rintro e w1 ⟨rfl, h1, h2⟩
      try simp only [ans]
      go_wp2_with fail
      go_ret
      exact rr_int_val rfl (by rw [Hu.out]; omega) rfl h1 h2

set_option maxRecDepth 100000 in
theorem whole_any (b g : Nat) (st : Option (List UInt8)) (w : World) (h : IsRR w b g st) :
    Calls Try.prog 35 #[.pointer (some ⟨b, 0, none⟩)] w (RRPost w b g (.int .i64 0) (st.bind rInt)) := by
  have hN := rrint b g st w h
  cases hd : st.bind rInt with
  | none =>
    rw [hd] at hN
    clear hd h
    go_enter Try.func35, Try.ntmps35
    go_wp2_with fail
    refine hN.mono ?_
    rintro e w1 ⟨rfl, h1, h2⟩
    try simp only [ans]
    obtain ⟨A, n, c, f, hb, hA, hf⟩ := h1
    obtain rfl : f = true := hf
    have hb1 := cell_at hb 1 rfl
    go_wp2_with fail
    go_ret
    exact ⟨rfl, ⟨A, n, c, true, hb, hA, rfl⟩, h2⟩
  | some p =>
    obtain ⟨v, r⟩ := p
    obtain ⟨x, rfl⟩ : ∃ x : Int, v = .int .i64 x := by
      cases st with
      | none => simp at hd
      | some l => exact rInt_shape (by simpa using hd)
    rw [hd] at hN
    clear hd h
    go_enter Try.func35, Try.ntmps35
    go_wp2_with fail
    refine hN.mono ?_
    rintro e w1 ⟨rfl, h1, h2⟩
    try simp only [ans]
    obtain ⟨A, n, c, f, hb, hA, rfl, hrd, hn⟩ := h1
    have hb1 := cell_at hb 1 rfl
    go_wp2_with fail
    go_ret
    exact ⟨rfl, ⟨A, n, c, false, hb, hA, rfl, hrd, hn⟩, h2⟩

set_option maxRecDepth 100000 in
theorem rrbool (b g : Nat) (st : Option (List UInt8)) (w : World) (h : IsRR w b g st) :
    Calls Try.prog 39 #[.pointer (some ⟨b, 0, none⟩)] w (RRPost w b g (.bool false) (st.bind rBool)) := by
  obtain ⟨A, n, c, f, hb, hA, hst⟩ := h
  have hb0 := cell_at hb 0 rfl
  have hb1 := cell_at hb 1 rfl
  have hf0 := free_at hb 0
  have hf1 := free_at hb 1
  obtain ⟨hbad, hbadc⟩ := rr_bad hb hA
  cases st with
  | none =>
    obtain rfl : f = true := hst
    go_enter Try.func39, Try.ntmps39
    go_wp2_with fail
    go_ret
    exact ⟨rfl, hbad, hbadc⟩
  | some l =>
    obtain ⟨rfl, hrd, hn⟩ := hst
    have hl := hrd.length
    cases l with
    | nil =>
      have hn0 : n = 0 := by simpa using hl.symm
      subst hn0
      clear hl
      have hno : (some ([] : List UInt8)).bind rBool = none := rfl
      rw [hno]
      go_enter Try.func39, Try.ntmps39
      go_wp2_with fail
      go_ret
      exact ⟨rfl, hbad, hbadc⟩
    | cons x r =>
      have hnp : 0 < n := by rw [← hl]; simp
      have hnz : ((n : Int) == 0) = false := by rw [beq_eq_false_iff_ne]; omega
      obtain ⟨b0, o0, rfl, hcell⟩ := hrd.cell hnp
      have hx := hcell 0 (by simp)
      simp only [List.getElem_cons_zero, Nat.add_zero] at hx
      obtain ⟨i0, hi0, hsz0⟩ := Option.map_eq_some_iff.1 Try.info5s
      obtain ⟨A', hcut, hrd', hblk⟩ := cut_from (P := Try.prog) 28 5 Try.underlying28 hi0 hsz0 (some ⟨b0, o0, none⟩) n c 1 (by omega)
      have hrd1 := hrd' w _ hrd
      have hcut' : ∀ W : World, (Instr.slice 28 (.slice (some ⟨b0, o0, none⟩) n c) (some (.int .i64 1)) none none).run Try.prog W = .ok (.slice A' (n - 1) (c - 1)) W := fun W => hcut .i64 W
      have hnext : IsRR (w.setCell ⟨b, 0, none⟩ (.slice A' (n - 1) (c - 1))) b g (some r) := rr_step hb hA hblk hrd1 (by omega) (by omega)
      have hw1 : Ch [b] w (w.setCell ⟨b, 0, none⟩ (.slice A' (n - 1) (c - 1))) := (Ch.refl _ _).setCell _ _ (by simp)
      clear hcut hrd' hcell hl hrd
      by_cases hx1 : x.toNat ≤ 1
      · have hle : decide ((x.toNat : Int) > 1) = false := by simp; omega
        have hyes : (some (x :: r)).bind rBool = some (.bool (x.toNat == 1), r) := by rw [Option.bind_some, rBool, decB, if_pos hx1]; rfl
        rw [hyes]
        have he : ((x.toNat : Int) == 1) = (x.toNat == 1) := by rw [Bool.eq_iff_iff]; simp; omega
        have He := Lib.hid he
        clear he
        go_enter Try.func39, Try.ntmps39
        go_wp2_with fail
        go_ret
        exact ⟨by rw [He.out]; rfl, hnext, hw1⟩
      · have hle : decide ((x.toNat : Int) > 1) = true := by simp; omega
        have hno : (some (x :: r)).bind rBool = none := by rw [Option.bind_some, rBool, decB, if_neg hx1]; rfl
        rw [hno]
        go_enter Try.func39, Try.ntmps39
        go_wp2_with fail
        go_ret
        exact ⟨rfl, hbad, hbadc⟩

set_option maxRecDepth 100000 in
theorem rrtext (b g : Nat) (st : Option (List UInt8)) (w : World) (h : IsRR w b g st) :
    Calls Try.prog 37 #[.pointer (some ⟨b, 0, none⟩)] w (RRPost w b g (.string ⟨#[]⟩) (st.bind rText)) := by
  have hN := rrnum b g st w h
  cases hd : st.bind decN with
  | none =>
    have e1 : st.bind rNum = none := by cases st with | none => rfl | some l => simp only [Option.bind_some] at hd ⊢; rw [rNum, hd]; rfl
    have e2 : st.bind rText = none := by cases st with | none => rfl | some l => simp only [Option.bind_some] at hd ⊢; rw [rText, decT, hd]; rfl
    rw [e1] at hN
    rw [e2]
    clear e1 e2 hd h
    go_enter Try.func37, Try.ntmps37
    go_wp2_with fail
    refine hN.mono ?_
    rintro e w1 ⟨rfl, h1, h2⟩
    try simp only [ans]
    obtain ⟨A, n, c, f, hb, hA, hf⟩ := h1
    obtain rfl : f = true := hf
    have hb1 := cell_at hb 1 rfl
    have hf1 := free_at hb 1
    obtain ⟨hbad, hbadc⟩ := rr_bad hb hA
    go_wp2_with fail
    go_ret
    exact ⟨rfl, hbad, h2.trans' hbadc⟩
  | some p =>
    obtain ⟨x, r⟩ := p
    have hx : x < 18446744073709551616 := by
      cases st with
      | none => simp at hd
      | some l => exact decN_lt (by simpa using hd)
    have e1 : st.bind rNum = some (.int .u64 (x : Int), r) := by cases st with | none => simp at hd | some l => simp only [Option.bind_some] at hd ⊢; rw [rNum, hd]; rfl
    have e2 : st.bind rText = if x ≤ r.length then some (.string (str (r.take x)), r.drop x) else none := by
      cases st with
      | none => simp at hd
      | some l =>
        simp only [Option.bind_some] at hd ⊢
        rw [rText, decT, hd, Option.bind_some]
        split <;> rfl
    rw [e1] at hN
    rw [e2]
    try simp only [ans] at hN
    have Hx := Lib.hid hx
    clear e1 e2 hd h hx
    by_cases hxr : x ≤ r.length
    · rw [if_pos hxr]
      go_enter Try.func37, Try.ntmps37
      go_wp2_with fail
      refine hN.mono ?_
      rintro e w1 ⟨rfl, h1, hc⟩
      try simp only [ans]
      replace h1 : IsRR w1 b g (some r) := h1
      obtain ⟨A, n, c, f, hb, hA, rfl, hrd, hn⟩ := h1
      have hb0 := cell_at hb 0 rfl
      have hb1 := cell_at hb 1 rfl
      have hf0 := free_at hb 0
      have hf1 := free_at hb 1
      have hl := hrd.length
      have hxn : x ≤ n := by omega
      obtain ⟨i0, hi0, hsz0⟩ := Option.map_eq_some_iff.1 Try.info5s
      obtain ⟨A', hcut, hrd', hblk⟩ := cut_from (P := Try.prog) 28 5 Try.underlying28 hi0 hsz0 A n c x hxn
      have hrd1 : RdB w1 A' (n - x) (c - x) (r.drop x) := by have := hrd' w1 _ hrd; rwa [Nat.mul_one, bvs_drop] at this
      have hcut' := hcut .u64
      have hrt : RdB w1 A x c (r.take x) := by have := hrd.take x hxn; rwa [Nat.mul_one, bvs_take] at this
      have hcs := conv_str (P := Try.prog) hrt 28 5 9 Try.underlying28 Try.underlying5 Try.underlying9
      have hnext : IsRR (w1.setCell ⟨b, 0, none⟩ (.slice A' (n - x) (c - x))) b g (some (r.drop x)) := rr_step hb hA hblk hrd1 (by omega) (by omega)
      have hw1 : Ch [b] w (w1.setCell ⟨b, 0, none⟩ (.slice A' (n - x) (c - x))) := hc.setCell _ _ (by simp)
      have hcap := hrd.cap
      have hmax : c ≤ 9223372036854775807 := by have := hrd.max; simpa [maxLen] using this
      clear hcut hrd' hl
      go_wp2_with fail
      go_ret
      exact ⟨rfl, hnext, hw1⟩
    · rw [if_neg hxr]
      go_enter Try.func37, Try.ntmps37
      go_wp2_with fail
      refine hN.mono ?_
      rintro e w1 ⟨rfl, h1, hc⟩
      try simp only [ans]
      replace h1 : IsRR w1 b g (some r) := h1
      obtain ⟨A, n, c, f, hb, hA, rfl, hrd, hn⟩ := h1
      have hb0 := cell_at hb 0 rfl
      have hb1 := cell_at hb 1 rfl
      have hf0 := free_at hb 0
      have hf1 := free_at hb 1
      obtain ⟨hbad, hbadc⟩ := rr_bad hb hA
      have hl := hrd.length
      have hxn : n < x := by omega
      go_wp2_with fail
      go_ret
      exact ⟨rfl, hbad, hc.trans' hbadc⟩

end Go.Proofs.Ytbkncfedahifkaa
