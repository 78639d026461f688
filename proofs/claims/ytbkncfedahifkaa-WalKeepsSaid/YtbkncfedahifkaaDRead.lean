/-
  Package disk: Read.
-/
import Derived.Test.YtbkncfedahifkaaDisk2
set_option linter.unusedVariables false
namespace Go.Proofs.Ytbkncfedahifkaa
open Go.RowKit Go.Maps

/-- A sector, as it is read. -/
def Dsk.read (d : Dsk) (i : Nat) : List UInt8 := (d.dirty i).getD (d.sure.getD i [])

theorem ikeyed : Keyed Try.prog 3 := int_keyed Try.underlying3
theorem ikey_mk (i : Nat) (h : i ≤ 4096) : keyOf Try.prog 3 (.int .i64 (i : Int)) = some (ikey i) :=
  keyOf_int_mk Try.underlying3 (by simp [Lit.wf, IntKind.min, IntKind.max, IntKind.signed, IntKind.bits]; omega)

section
variable {w : World} {b g m : Nat} {X : List Nat} {d : Dsk} {c : Nat} {vs : List Value} {D : DataW Value}
/-- What is written and not yet sure, looked up. -/
theorem DiskAt.look (h : DiskAt w b g m X d c vs D) (i : Nat) (hi : i < d.sure.length) :
    match d.dirty i with
    | some l => ∃ v, (Instr.lookup 65 (.map (some m)) (.int .i64 (i : Int)) true).run Try.prog w = .ok (.tuple #[v, .bool true]) w ∧ SecV w (b :: g :: m :: X) d.sz v l
    | none => ∃ v, (Instr.lookup 65 (.map (some m)) (.int .i64 (i : Int)) true).run Try.prog w = .ok (.tuple #[v, .bool false]) w := by
  have hn := h.n1
  have hz : (zeroValue 28).run Try.prog w = .ok (.slice none 0 0) w := by simp [Try.zeroValue28]
  obtain ⟨v, ps, hrun, hat⟩ := h.map.look_ok ikeyed Try.underlying65 hz rfl (ikey_mk i (by omega))
  cases hd : d.dirty i with
  | none =>
    have hh := h.none_ i hi hd
    rw [hh] at hrun
    exact ⟨v, hrun⟩
  | some l =>
    obtain ⟨hh, v', hv', hs⟩ := h.some_ i l hi hd
    rw [hh] at hrun
    rw [hv'] at hat
    simp only [selfR, Option.some.injEq, Prod.mk.injEq, DataW.held.injEq] at hat
    obtain ⟨rfl, _⟩ := hat
    exact ⟨v, hrun, hs⟩
end

set_option maxRecDepth 100000 in
theorem read_bad (b g m : Nat) (X : List Nat) (d : Dsk) (i : Int) (w : World) (h : IsDisk w b g m X d) (he : d.at_ i ≠ 0) :
    Calls Try.prog 49 #[.pointer (some ⟨b, 0, none⟩), .int .i64 i] w fun e w' => e = .returned (.tuple #[.slice none 0 0, .int .i64 (d.at_ i)]) ∧ w = w' := by
  have hne : (d.at_ i != 0) = true := by simpa using he
  generalize hx : d.at_ i = x at *
  go_enter Try.func49, Try.ntmps49
  go_wp2_with fail
  refine (at_any b g m X d i w h).mono ?_
  rintro e w1 ⟨rfl, rfl⟩
  rw [hx]
  go_wp2_with fail
  go_ret2
  exact ⟨rfl, rfl⟩

set_option maxRecDepth 100000 in
theorem read_any (b g m : Nat) (X : List Nat) (d : Dsk) (i : Nat) (w : World) (h : IsDisk w b g m X d) (he : d.at_ i = 0) :
    Calls Try.prog 49 #[.pointer (some ⟨b, 0, none⟩), .int .i64 (i : Int)] w fun e w' => ∃ v, e = .returned (.tuple #[v, .int .i64 0]) ∧ OwnB w.heap.size (d.read i) w' v ∧ Ch [] w w' := by
  have hi : i < d.sure.length := by
    unfold Dsk.at_ at he
    split at he
    · cases he
    · split at he
      · cases he
      · omega
  have ha := at_any b g m X d i w h
  rw [he] at ha
  obtain ⟨c, vs, D, h⟩ := h
  have h0 := cell_at h.cells 0 rfl
  have h1 := cell_at h.cells 1 rfl
  have hz1 := h.sz1
  have hl := h.look i hi
  cases hd : d.dirty i with
  | some l =>
    rw [hd] at hl
    obtain ⟨v, hrun, A, ca, rfl, hrd, _⟩ := hl
    have hr : d.read i = l := by simp [Dsk.read, hd]
    rw [hr]
    go_enter Try.func49, Try.ntmps49
    go_wp2_with fail
    refine ha.mono ?_
    rintro e w1 ⟨rfl, rfl⟩
    go_wp2_with fail
    refine (clone_bytes A _ ca l w hrd (by omega)).mono ?_
    rintro e w1 ⟨v, rfl, hv, hc⟩
    go_wp2_with fail
    go_ret2
    exact ⟨v, rfl, hv, hc⟩
  | none =>
    rw [hd] at hl
    obtain ⟨v, hrun⟩ := hl
    have hr : d.read i = d.sure[i] := by simp [Dsk.read, hd, List.getD, hi]
    rw [hr]
    obtain ⟨A, ca, hcell, hrd, _⟩ := h.sure_cell i hi
    go_enter Try.func49, Try.ntmps49
    go_wp2_with fail
    refine ha.mono ?_
    rintro e w1 ⟨rfl, rfl⟩
    go_wp2_with fail
    refine (clone_bytes A _ ca _ w hrd (by omega)).mono ?_
    rintro e w1 ⟨v, rfl, hv, hc⟩
    go_wp2_with fail
    go_ret2
    exact ⟨v, rfl, hv, hc⟩

end Go.Proofs.Ytbkncfedahifkaa
