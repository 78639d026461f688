/-
  Package code, the reader: the contracts of int, text and bool (the inner ones).
-/
import Derived.Test.YtbkncfedahifkaaRNum
set_option linter.unusedVariables false
namespace Go.Proofs.Ytbkncfedahifkaa
open Go.RowKit

/-- What an inner read comes to. -/
def RPost (w : World) (b g : Nat) (r : Option (Value × List UInt8)) (e : Ending) (w' : World) : Prop :=
  Ch [b] w w' ∧ match r with
    | some (v, l) => e = .returned v ∧ IsRd w' b g (some l)
    | none => e = .panicked stop ∧ ∃ l, IsRd w' b g (some l)

def rNum (l : List UInt8) : Option (Value × List UInt8) := (decN l).map fun p => (Value.int .u64 (p.1 : Int), p.2)
def rInt (l : List UInt8) : Option (Value × List UInt8) := (decN l).map fun p => (Value.int .i64 (unzz p.1), p.2)
def rText (l : List UInt8) : Option (Value × List UInt8) := (decT l).map fun p => (Value.string (str p.1), p.2)
def rBool (l : List UInt8) : Option (Value × List UInt8) := (decB l).map fun p => (Value.bool p.1, p.2)

theorem num_r {w w' : World} {b g : Nat} {l : List UInt8} {e : Ending} (h : NumPost w b g (decN l) e w') : RPost w b g (rNum l) e w' := by
  unfold rNum
  cases hd : decN l with
  | none => rw [hd] at h; exact h
  | some p => rw [hd] at h; exact h

theorem xor_zero_i64 (a : Int) (h0 : -9223372036854775808 ≤ a) (h1 : a ≤ 9223372036854775807) : bits BinOp.xor IntKind.i64 a 0 = a := by
  show IntKind.i64.wrap ((BitVec.ofInt 64 a ^^^ BitVec.ofInt 64 0).toNat : Int) = a
  rw [show BitVec.ofInt 64 0 = 0#64 from rfl, BitVec.xor_zero, BitVec.toNat_ofInt]
  have e : ((2 ^ 64 : Nat) : Int) = 18446744073709551616 := by decide
  rw [e]
  rw [IntKind.wrap_i64]
  omega
theorem int_val (x : Nat) (hx : x < 18446744073709551616) :
    bits BinOp.xor IntKind.i64 (wrap64 ((x : Int) / 2)) (wrap64 (-wrap64 (bits BinOp.and IntKind.u64 (x : Int) 1))) = unzz x := by
  rw [Lib.u64_and1 _ (by omega) (by omega)]
  have h1 : wrap64 ((x : Int) / 2) = ((x / 2 : Nat) : Int) := by unfold wrap64; omega
  have h2 : wrap64 ((x : Int) % 2) = (x : Int) % 2 := by unfold wrap64; omega
  rw [h1, h2]
  unfold unzz
  split
  · rename_i h
    have h3 : wrap64 (-((x : Int) % 2)) = -1 := by unfold wrap64; omega
    rw [h3, bits_xor_comm, Lib.i64_not _ (by omega)]
  · rename_i h
    have h3 : wrap64 (-((x : Int) % 2)) = 0 := by unfold wrap64; omega
    rw [h3, xor_zero_i64 _ (by omega) (by omega)]

set_option maxRecDepth 100000 in
theorem int_any (b g : Nat) (l : List UInt8) (w : World) (h : IsRd w b g (some l)) :
    Calls Try.prog 68 #[.pointer (some ⟨b, 0, none⟩)] w (RPost w b g (rInt l)) := by
  cases hd : decN l with
  | none =>
    go_enter Try.func68, Try.ntmps68
    go_wp2_with fail
    refine (num_any b g l _ h).mono ?_
    rintro e w' ⟨hc, he⟩
    rw [hd] at he
    obtain ⟨rfl, l', hl'⟩ := he
    exact ⟨rfl, hc, by rw [rInt, hd]; exact ⟨rfl, l', hl'⟩⟩
  | some p =>
    obtain ⟨x, r⟩ := p
    have hx := decN_lt hd
    go_enter Try.func68, Try.ntmps68
    go_wp2_with fail
    refine (num_any b g l _ h).mono ?_
    rintro e w' ⟨hc, he⟩
    rw [hd] at he
    obtain ⟨rfl, hl'⟩ := he
    have hv := int_val x hx
    have Hv := Lib.hid hv
    clear hx hv
    go_wp2_with fail
    go_ret
    refine ⟨hc, ?_⟩
    rw [rInt, hd]
    exact ⟨by simp only [← Hv.out]; rfl, hl'⟩


set_option maxRecDepth 100000 in
theorem bool_any (b g : Nat) (l : List UInt8) (w : World) (h : IsRd w b g (some l)) :
    Calls Try.prog 78 #[.pointer (some ⟨b, 0, none⟩)] w (RPost w b g (rBool l)) := by
  obtain ⟨hgl, A, n, c, f, hb, hA, rfl, hrd, hn⟩ := h
  have hbc := cell_at hb 0 rfl
  have hbf := free_at hb 0
  have hl := hrd.length
  cases l with
  | nil =>
    have hn0 : n = 0 := by simpa using hl.symm
    subst hn0
    clear hl
    go_enter Try.func78, Try.ntmps78
    go_wp2_with fail
    refine (must_no _).mono ?_
    rintro e w' ⟨rfl, rfl⟩
    exact ⟨rfl, Ch.refl _ _, rfl, [], hgl, A, 0, c, false, hb, hA, rfl, hrd, by omega⟩
  | cons x r =>
    have hnp : 0 < n := by rw [← hl]; simp
    have hnp' : (0 : Int) < (n : Int) := by omega
    obtain ⟨b0, o0, rfl, hcell⟩ := hrd.cell hnp
    have hx := hcell 0 (by simp)
    simp only [List.getElem_cons_zero, Nat.add_zero] at hx
    obtain ⟨i0, hi0, hsz0⟩ := Option.map_eq_some_iff.1 Try.info5s
    obtain ⟨A', hcut, hrd', hblk⟩ := cut_from (P := Try.prog) 28 5 Try.underlying28 hi0 hsz0 (some ⟨b0, o0, none⟩) n c 1 (by omega)
    have hrd1 := hrd' w _ hrd
    have hcut' : ∀ W : World, (Instr.slice 28 (.slice (some ⟨b0, o0, none⟩) n c) (some (.int .i64 1)) none none).run Try.prog W = .ok (.slice A' (n - 1) (c - 1)) W := fun W => hcut .i64 W
    have hnext : IsRd (w.setCell ⟨b, 0, none⟩ (.slice A' (n - 1) (c - 1))) b g (some r) := rd_step hgl hb hA hblk hrd1 (by omega)
    have hw1 : Ch [b] w (w.setCell ⟨b, 0, none⟩ (.slice A' (n - 1) (c - 1))) := (Ch.refl _ _).setCell _ _ (by simp)
    clear hcut hrd' hcell hl
    by_cases hx1 : x.toNat ≤ 1
    · have hle : decide ((x.toNat : Int) ≤ 1) = true := by simp; omega
      go_enter Try.func78, Try.ntmps78
      go_wp2_with fail
      refine (must_yes _).mono ?_
      rintro e w' ⟨rfl, rfl⟩
      go_wp2_with fail
      go_ret
      refine ⟨hw1, ?_⟩
      rw [rBool, decB, if_pos hx1]
      refine ⟨?_, hnext⟩
      show Ending.returned (.bool ((x.toNat : Int) == 1)) = .returned (.bool (x.toNat == 1))
      congr 2
      rw [Bool.eq_iff_iff]
      simp
      omega
    · have hle : decide ((x.toNat : Int) ≤ 1) = false := by simp; omega
      go_enter Try.func78, Try.ntmps78
      go_wp2_with fail
      refine (must_no _).mono ?_
      rintro e w' ⟨rfl, rfl⟩
      refine ⟨rfl, Ch.refl _ _, ?_⟩
      rw [rBool, decB, if_neg hx1]
      exact ⟨rfl, _, hgl, _, n, c, false, hb, hA, rfl, hrd, by omega⟩

set_option maxRecDepth 100000 in
theorem text_any (b g : Nat) (l : List UInt8) (w : World) (h : IsRd w b g (some l)) :
    Calls Try.prog 76 #[.pointer (some ⟨b, 0, none⟩)] w (RPost w b g (rText l)) := by
  cases hd : decN l with
  | none =>
    go_enter Try.func76, Try.ntmps76
    go_wp2_with fail
    refine (num_any b g l _ h).mono ?_
    rintro e w' ⟨hc, he⟩
    rw [hd] at he
    obtain ⟨rfl, l', hl'⟩ := he
    exact ⟨rfl, hc, by rw [rText, decT, hd]; exact ⟨rfl, l', hl'⟩⟩
  | some p =>
    obtain ⟨x, r⟩ := p
    have hx := decN_lt hd
    have Hx := Lib.hid hx
    clear hx
    go_enter Try.func76, Try.ntmps76
    go_wp2_with fail
    refine (num_any b g l _ h).mono ?_
    rintro e w1 ⟨hc, he⟩
    rw [hd] at he
    obtain ⟨rfl, hgl, A, n, c, f, hb, hA, rfl, hrd, hn⟩ := he
    have hbc := cell_at hb 0 rfl
    have hbf := free_at hb 0
    have hl := hrd.length
    by_cases hxn : x ≤ n
    · have hxr : x ≤ r.length := by omega
      obtain ⟨i0, hi0, hsz0⟩ := Option.map_eq_some_iff.1 Try.info5s
      obtain ⟨A', hcut, hrd', hblk⟩ := cut_from (P := Try.prog) 28 5 Try.underlying28 hi0 hsz0 A n c x hxn
      have hrd1 : RdB w1 A' (n - x) (c - x) (r.drop x) := by have := hrd' w1 _ hrd; rwa [Nat.mul_one, bvs_drop] at this
      have hcut' := hcut .u64
      have hrt : RdB w1 A x c (r.take x) := by have := hrd.take x hxn; rwa [Nat.mul_one, bvs_take] at this
      have hcs := conv_str (P := Try.prog) hrt 28 5 9 Try.underlying28 Try.underlying5 Try.underlying9
      have hnext : IsRd (w1.setCell ⟨b, 0, none⟩ (.slice A' (n - x) (c - x))) b g (some (r.drop x)) := rd_step hgl hb hA hblk hrd1 (by omega)
      have hw1 : Ch [b] w (w1.setCell ⟨b, 0, none⟩ (.slice A' (n - x) (c - x))) := hc.setCell _ _ (by simp)
      have hcap := hrd.cap
      have hmax : c ≤ 9223372036854775807 := by have := hrd.max; simpa [maxLen] using this
      clear hcut hrd' hl
      go_wp2_with fail
      refine (must_yes _).mono ?_
      rintro e w' ⟨rfl, rfl⟩
      go_wp2_with fail
      go_ret
      refine ⟨hw1, ?_⟩
      rw [rText, decT, hd]
      simp only [Option.bind_some, if_pos hxr]
      exact ⟨rfl, hnext⟩
    · go_wp2_with fail
      refine (must_no _).mono ?_
      rintro e w' ⟨rfl, rfl⟩
      refine ⟨rfl, hc, ?_⟩
      rw [rText, decT, hd]
      rw [Option.bind_some, if_neg (show ¬ x ≤ r.length by omega)]
      exact ⟨rfl, _, hgl, A, n, c, false, hb, hA, rfl, hrd, hn⟩

end Go.Proofs.Ytbkncfedahifkaa
