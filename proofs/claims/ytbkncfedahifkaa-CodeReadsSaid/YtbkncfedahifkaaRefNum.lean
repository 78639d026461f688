/-
  The references of layer 1: the contracts of Num, Int, Text, Bool.
-/
import Derived.Test.YtbkncfedahifkaaRefW
import Derived.Test.YtbkncfedahifkaaKnown2
set_option linter.unusedVariables false
namespace Go.Proofs.Ytbkncfedahifkaa
open Go.RowKit

/-- In the midst of one number: d is laid, y is left. -/
def RefIn (w0 : World) (o : Option Nat) (l : List UInt8) (x : Nat) (v : Value) (y : Nat) (w : World) : Prop :=
  ∃ d, encN x = d ++ encN y ∧ y ≤ x ∧ ∃ o', BSl w v o' (l ++ d) ∧ (∀ k, o' = some k → o = some k ∨ w0.heap.size ≤ k) ∧ Ch o.toList w0 w

theorem RefIn.step {w0 w w1 : World} {o ob : Option Nat} (hob : ∀ k, ob = some k → o = some k ∨ w0.heap.size ≤ k) (hc : Ch o.toList w0 w) {v1 : Value} (hg : w.grownBy w1 ob) (hat : v1.ownBlock = ob ∨ ∃ k, v1.ownBlock = some k ∧ w.heap.size ≤ k) :
    (∀ k, v1.ownBlock = some k → o = some k ∨ w0.heap.size ≤ k) ∧ Ch o.toList w0 w1 := by
  refine ⟨?_, hc.grown hg (fun k hk => by rcases hob k hk with h | h; exact .inl (by simp [h]); exact .inr h)⟩
  intro k hk
  rcases hat with hat | ⟨k', hat, hk'⟩
  · exact hob k (by rw [← hat, hk])
  · rw [hk] at hat; injection hat with hat; right; have := hc.size; omega

set_option maxRecDepth 100000 in
set_option maxHeartbeats 800000 in
theorem refnum (v : Value) (o : Option Nat) (l : List UInt8) (x : Nat) (w : World) (hv : BSl w v o l) (hx : x < 18446744073709551616) (hlen : l.length + 10 ≤ 140737488355328) :
    Calls Try.prog 69 #[v, .int .u64 (x : Int)] w fun e w' => ∃ v', e = .returned v' ∧ SlSt w o (l ++ encN x) w' v' := by
  have h10 := encN_len10 hx
  have Hx := Lib.hid hx
  clear hx
  go_enter Try.func69, Try.ntmps69
  go_wp2
  go_loopw [0, 1] (fun u n wr => ∃ y : Nat, n = .int .u64 y ∧ RefIn w o l x u y wr) (fun _ n _ => (intOf n).toNat)
  case atStart => exact ⟨x, rfl, [], by simp, Nat.le_refl _, o, by simpa using hv, fun k hk => .inl hk, Ch.refl _ _⟩
  case round =>
    rename_i wr u0 u1
    obtain ⟨y, rfl, d, hd, hyx, ob, hb, hob, hch⟩ := hrel
    have hy0 := encN_pos y
    have hdl : d.length + (encN y).length ≤ 10 := by rw [hd, List.length_append] at h10; exact h10
    have hl8 : (l ++ d).length + 1 ≤ 140737488355328 := by rw [List.length_append]; omega
    generalize hcur : l ++ d = cur at *
    have Hcur := Lib.hid hcur; clear hcur
    have Hd := Lib.hid hd; clear hd hdl hy0
    by_cases hy : 128 ≤ y
    · go_wp2_with (at_builtin; refine app_bsl rfl (.tmp 7) (.tmp 11) 28 5 rfl Try.underlying28 rfl Try.info5 _ ob cur _ rfl rfl hb hl8 ?_; intro v1 w1 h1 hg hat)
      go_roundw
      case rel =>
        have h2 := own_snoc h1 (or_more y)
        obtain ⟨h3, h4⟩ := RefIn.step hob hch hg hat
        refine ⟨y / 128, by go_num, d ++ [UInt8.ofNat (y % 128 + 128)], by rw [Hd.out, encN_big hy]; simp, by omega, _, ?_, h3, h4⟩
        rw [← List.append_assoc, Hcur.out]
        exact .inl ⟨h2, rfl⟩
      case measure => simp [intOf]; omega
    · go_wp2_with (at_builtin; refine app_bsl rfl (.tmp 15) (.tmp 18) 28 5 rfl Try.underlying28 rfl Try.info5 _ ob cur _ rfl rfl hb hl8 ?_; intro v1 w1 h1 hg hat)
      go_ret
      have h2 := own_snoc h1 (low_byte y (by omega))
      obtain ⟨h3, h4⟩ := RefIn.step hob hch hg hat
      refine ⟨v1, rfl, _, ?_, rfl, h3, h4⟩
      rw [Hd.out, encN_small (show y < 128 by omega), ← List.append_assoc, Hcur.out]
      exact h2

set_option maxRecDepth 100000 in
theorem refint (v : Value) (o : Option Nat) (l : List UInt8) (x : Int) (w : World) (hv : BSl w v o l) (h0 : -9223372036854775808 ≤ x) (h1 : x ≤ 9223372036854775807) (hlen : l.length + 10 ≤ 140737488355328) :
    Calls Try.prog 70 #[v, .int .i64 x] w fun e w' => ∃ v', e = .returned v' ∧ SlSt w o (l ++ encN (zz x)) w' v' := by
  have hz := zz_lt h0 h1
  have Hz := Lib.hid hz
  clear hz
  by_cases hn : x < 0
  · have e1 : -(x + 1) * 2 + 1 = (zz x : Int) := by unfold zz; rw [if_pos hn]; omega
    have E1 := Lib.hid e1
    clear e1
    go_enter Try.func70, Try.ntmps70
    go_wp2_with fail
    rw [E1.out]
    refine (refnum v o l _ w hv Hz.out hlen).mono ?_
    rintro e w1 ⟨v1, rfl, h⟩
    go_wp2_with fail
    go_ret
    exact ⟨v1, rfl, h⟩
  · have e1 : x * 2 = (zz x : Int) := by unfold zz; rw [if_neg hn]; omega
    have E1 := Lib.hid e1
    clear e1
    go_enter Try.func70, Try.ntmps70
    go_wp2_with fail
    rw [E1.out]
    refine (refnum v o l _ w hv Hz.out hlen).mono ?_
    rintro e w1 ⟨v1, rfl, h⟩
    go_wp2_with fail
    go_ret
    exact ⟨v1, rfl, h⟩

theorem SlSt.then_str {w w1 w2 : World} {o : Option Nat} {l l2 : List UInt8} {v v1 : Value} (h : SlSt w o l w1 v) (h1 : w2.ownsRow 0 5 1 v1 l2.length (bvs l2)) (hg : w1.grownBy w2 v.ownBlock) (hat : v1.ownBlock = v.ownBlock ∨ ∃ k, v1.ownBlock = some k ∧ w1.heap.size ≤ k) : SlSt w o l2 w2 v1 := by
  obtain ⟨o', h2, rfl, h3, h4⟩ := h
  obtain ⟨q1, q2⟩ := RefIn.step h3 h4 hg hat
  exact ⟨_, h1, rfl, q1, q2⟩

set_option maxRecDepth 100000 in
theorem reftext (v : Value) (o : Option Nat) (l : List UInt8) (s : ByteArray) (w : World) (hv : BSl w v o l) (hlen : l.length + 10 + s.size ≤ 140737488355328) :
    Calls Try.prog 32 #[v, .string s] w fun e w' => ∃ v', e = .returned v' ∧ SlSt w o (l ++ encT s.data.toList) w' v' := by
  have h10 : (encN s.size).length ≤ 10 := encN_len10 (by omega)
  have hs : s.size ≤ 140737488355328 := by omega
  have e1 : l ++ encT s.data.toList = (l ++ encN s.size) ++ s.data.toList := by simp only [encT, List.append_assoc]; rfl
  have hl2 : (l ++ encN s.size).length + s.size ≤ 140737488355328 := by rw [List.length_append]; omega
  have E1 := Lib.hid e1
  clear e1 h10
  go_enter Try.func32, Try.ntmps32
  go_wp2_with fail
  refine (refnum v o l s.size w hv (by omega) (by omega)).mono ?_
  rintro e w1 ⟨v1, rfl, h⟩
  have hown : w1.ownsRow 0 5 1 v1 (l ++ encN s.size).length (bvs (l ++ encN s.size)) := by obtain ⟨o', h1, _⟩ := h; exact h1
  have H := Lib.hid h
  clear h
  generalize hcur : l ++ encN s.size = cur at *
  have Hcur := Lib.hid hcur; clear hcur
  go_wp2_with (at_builtin; refine app_str rfl (.tmp 9) (.tmp 10) 28 9 5 rfl Try.underlying28 Try.underlying9 Try.info5 v1 cur s rfl rfl hown (Nat.zero_le _) hl2 ?_; intro v2 w2 h1 hg hat)
  go_ret
  refine ⟨v2, rfl, ?_⟩
  rw [E1.out]
  exact H.out.then_str h1 hg hat

set_option maxRecDepth 100000 in
theorem refbool (v : Value) (o : Option Nat) (l : List UInt8) (x : Bool) (w : World) (hv : BSl w v o l) (hlen : l.length + 10 ≤ 140737488355328) :
    Calls Try.prog 71 #[v, .bool x] w fun e w' => ∃ v', e = .returned v' ∧ SlSt w o (l ++ encB x) w' v' := by
  have hob : ∀ k, o = some k → o = some k ∨ w.heap.size ≤ k := fun k h => .inl h
  have Hob := Lib.hid hob
  clear hob
  cases x
  · go_enter Try.func71, Try.ntmps71
    go_wp2_with (at_builtin; refine app_bsl rfl (.tmp 9) (.tmp 10) 28 5 rfl Try.underlying28 rfl Try.info5 _ o l _ rfl rfl hv (by omega) ?_; intro v1 w1 h1 hg hat)
    go_ret
    obtain ⟨h3, h4⟩ := RefIn.step Hob.out (Ch.refl _ w) hg hat
    exact ⟨v1, rfl, _, own_snoc (c := 0) h1 rfl, rfl, h3, h4⟩
  · go_enter Try.func71, Try.ntmps71
    go_wp2_with (at_builtin; refine app_bsl rfl (.tmp 6) (.tmp 7) 28 5 rfl Try.underlying28 rfl Try.info5 _ o l _ rfl rfl hv (by omega) ?_; intro v1 w1 h1 hg hat)
    go_ret
    obtain ⟨h3, h4⟩ := RefIn.step Hob.out (Ch.refl _ w) hg hat
    exact ⟨v1, rfl, _, own_snoc (c := 1) h1 rfl, rfl, h3, h4⟩

end Go.Proofs.Ytbkncfedahifkaa
