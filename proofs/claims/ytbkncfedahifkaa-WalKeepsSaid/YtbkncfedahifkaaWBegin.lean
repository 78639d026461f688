/-
  Package wal: begin.
-/
import Derived.Test.YtbkncfedahifkaaWTry
set_option linter.unusedVariables false
set_option linter.unusedSimpArgs false
namespace Go.Proofs.Ytbkncfedahifkaa
open Go.RowKit Go.Maps

/-- The turn that a side's first frame tells. -/
def okSide (R : Nat → List UInt8) (n sz side : Nat) : Option Nat := match openF R n sz side 0 0 with
  | some (t, _, _) => if t % 2 = side then some t else none
  | none => none
/-- Is b a later turn than a? -/
def newer (a b : Nat) : Bool := decide (IntKind.i64.wrap (IntKind.u64.wrap ((b : Int) - (a : Int))) > 0)
def stepB (st s : Option Nat) : Option Nat := match s with
  | none => st
  | some b => match st with
    | none => some b
    | some a => if newer a b then some b else some a
def stB (R : Nat → List UInt8) (n sz : Nat) : Nat → Option Nat
  | 0 => none
  | k + 1 => stepB (stB R n sz k) (okSide R n sz k)
theorem openF_lt {R : Nat → List UInt8} {n sz side a nx t bh : Nat} {rs : List (List UInt8)} (h : openF R n sz side a nx = some (t, rs, bh)) : t < 18446744073709551616 := by
  unfold openF at h
  simp only at h
  split at h
  · obtain ⟨q, _, e⟩ := Option.map_eq_some_iff.1 h
    simp only [Prod.mk.injEq] at e
    rw [← e.1]
    have h4 := deN_lt ((((R (side * (n / 2) + a)).take (sz - 16)).drop 8).take 8)
    have h5 : ((((R (side * (n / 2) + a)).take (sz - 16)).drop 8).take 8).length ≤ 8 := by rw [List.length_take]; omega
    have h6 : 256 ^ ((((R (side * (n / 2) + a)).take (sz - 16)).drop 8).take 8).length ≤ 256 ^ 8 := Nat.pow_le_pow_right (by omega) h5
    exact Nat.lt_of_lt_of_le h4 h6
  · cases h
theorem okSide_lt {R : Nat → List UInt8} {n sz side t : Nat} (h : okSide R n sz side = some t) : t < 18446744073709551616 := by
  unfold okSide at h
  cases ho : openF R n sz side 0 0 with
  | none => rw [ho] at h; cases h
  | some q =>
    obtain ⟨t', rs, bh⟩ := q
    rw [ho] at h
    simp only at h
    split at h
    · injection h with h
      subst h
      exact openF_lt ho
    · cases h

section
variable {lb um b g m n sz turn next at_ count : Nat} {X : List Nat} {R : Nat → List UInt8}
set_option maxRecDepth 100000 in
theorem beginC_any (lp sp tp side : Nat) (z : Value) (w : World) (h : LogS w lb um b g m X n sz R turn next at_ count) (hs : side < 2) (hlp : w.heap[lp]? = some (.cells #[.pointer (some ⟨lb, 0, none⟩)] 88 (0, 0)))
    (hsp : w.heap[sp]? = some (.cells #[.int .i64 (side : Int)] 3 (0, 0))) (htp : w.heap[tp]? = some (.cells #[z] 33 (0, 0))) :
    Calls Try.prog 99 #[.pointer (some ⟨lp, 0, none⟩), .pointer (some ⟨sp, 0, none⟩), .pointer (some ⟨tp, 0, none⟩)] w fun e w' => Ch [tp] w w' ∧
      ((e = .returned (.tuple #[]) ∧ ∃ t, okSide R n sz side = some t ∧ w'.heap[tp]? = some (.cells #[.int .u64 (t : Int)] 33 (0, 0))) ∨ (e = .panicked stopW ∧ okSide R n sz side = none)) := by
  have hop := open_any side 0 0 w h hs (by omega) (by omega)
  rw [show ((0 : Nat) : Int) = 0 from rfl] at hop
  have clp := cell_at hlp 0 rfl
  have csp := cell_at hsp 0 rfl
  have hst : sp ≠ tp := by
    rintro rfl
    rw [hsp] at htp
    simp only [Option.some.injEq, Obj.cells.injEq] at htp
    exact absurd htp.2.1 (by decide)
  have hlt : lp ≠ tp := by
    rintro rfl
    rw [hlp] at htp
    simp only [Option.some.injEq, Obj.cells.injEq] at htp
    exact absurd htp.2.1 (by decide)
  have HOP := Lib.hid hop
  clear hop
  go_enter Try.func99, Try.ntmps99
  go_wp2_with fail
  refine HOP.out.mono ?_
  rintro e w1 ⟨hc1, he⟩
  cases ho : openF R n sz side 0 0 with
  | none =>
    rw [ho] at he
    subst he
    have hk : okSide R n sz side = none := by unfold okSide; rw [ho]
    have HK2 := Lib.hid hk
    clear hk ho HOP
    exact ⟨rfl, hc1.mono (by simp), .inr ⟨rfl, HK2.out⟩⟩
  | some q =>
    obtain ⟨t, rs, bh⟩ := q
    rw [ho] at he
    obtain ⟨v, rfl, hrows⟩ := he
    have htb := openF_lt ho
    have htp1 := hc1.at_ htp (by simp)
    have ftp := free_at htp1 0
    have ctp := cell_at htp1 0 rfl
    have htp2 := heap_setCell_same w1 tp 0 _ 33 (.int .u64 (t : Int)) htp1
    have htp2' : (w1.setCell ⟨tp, 0, none⟩ (.int .u64 (t : Int))).heap[tp]? = some (.cells #[.int .u64 (t : Int)] 33 (0, 0)) := by simpa using htp2
    have ctp2 := cell_at htp2' 0 rfl
    have hcs : Ch [tp] w1 (w1.setCell ⟨tp, 0, none⟩ (.int .u64 (t : Int))) := (Ch.refl _ _).setCell _ _ (by simp)
    have csp2 := hcs.cell (hc1.cell csp (by simp)) (by simpa using hst)
    have hcu : IntKind.u64.wrap (side : Int) = (side : Int) := by rw [IntKind.wrap_u64]; omega
    have hcc : Ch [tp] w (w1.setCell ⟨tp, 0, none⟩ (.int .u64 (t : Int))) := (hc1.mono (by simp)).trans hcs (fun y hy => .inl hy)
    by_cases hts : t % 2 = side
    · have hk : okSide R n sz side = some t := by unfold okSide; rw [ho]; simp only [if_pos hts]
      have heq : ((t : Int) % 2 == (side : Int)) = true := by rw [beq_iff_eq]; omega
      have HH := Lib.hid (show _ ∧ _ ∧ _ from ⟨hcc, hk, htp2'⟩)
      clear hk hcc htp2 htp2' ho HOP hts
      go_wp2_with fail
      refine (wmust_yes _ _).mono ?_
      rintro e w' ⟨rfl, rfl⟩
      go_wp2_with fail
      go_end0
      exact ⟨HH.out.1, .inl ⟨rfl, t, HH.out.2.1, HH.out.2.2⟩⟩
    · have hk : okSide R n sz side = none := by unfold okSide; rw [ho]; simp only [if_neg hts]
      have heq : ((t : Int) % 2 == (side : Int)) = false := by rw [beq_eq_false_iff_ne]; omega
      have HH := Lib.hid (show _ ∧ _ from ⟨hcc, hk⟩)
      clear hk hcc htp2 htp2' ho HOP hts
      go_wp2_with fail
      refine (wmust_no _).mono ?_
      rintro e w' ⟨rfl, rfl⟩
      exact ⟨rfl, HH.out.1, .inr ⟨rfl, HH.out.2⟩⟩
end

end Go.Proofs.Ytbkncfedahifkaa
