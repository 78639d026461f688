/-
  Package disk: Flush.
-/
import Derived.Test.YtbkncfedahifkaaDSettle
set_option linter.unusedVariables false
namespace Go.Proofs.Ytbkncfedahifkaa
open Go.RowKit Go.Maps

def resFlush (_ : Nat) (_ l : List UInt8) : List UInt8 := l
def Dsk.settled (d : Dsk) (res : Nat → List UInt8 → List UInt8 → List UInt8) : Dsk := (d.settleK res d.idx.length).clean
/-- What a flush comes to. -/
def Dsk.flush (d : Dsk) : Dsk × Int := if d.dead then (d, 32) else if d.power.2 then (d.power.1.settled resFlush, 0) else (d.power.1, 32)

theorem flush_fn (k : Nat) (s l : Value) (w : World) : Calls Try.prog 83 (#[.int .i64 (k : Int), s, l] ++ #[]) w fun e w' => e = .returned l ∧ w = w' := by
  show Calls Try.prog 83 #[.int .i64 (k : Int), s, l] w _
  go_enter Try.func83, Try.ntmps83
  go_wp2
  go_ret
  exact ⟨rfl, rfl⟩

set_option maxRecDepth 100000 in
theorem flush_any (b g m : Nat) (X : List Nat) (d : Dsk) (w : World) (h : IsDisk w b g m X d) :
    Calls Try.prog 47 #[.pointer (some ⟨b, 0, none⟩)] w fun e w' => e = .returned (.int .i64 d.flush.2) ∧ IsDisk w' b g m X d.flush.1 ∧ Ch [b, g, m] w w' := by
  have hp := powered_any b g m X d w h
  have h3 : w.cell? ⟨b, 3, none⟩ = some (.bool d.dead) := by
    obtain ⟨c, vs, D, h⟩ := h
    exact cell_at h.cells 3 rfl
  cases hdd : d.dead with
  | true =>
    have hw : d.flush = (d, 32) := by simp [Dsk.flush, hdd]
    rw [hw]
    rw [hdd] at h3
    clear hw hp
    go_enter Try.func47, Try.ntmps47
    go_wp2_with fail
    go_ret
    exact ⟨rfl, h, Ch.refl _ _⟩
  | false =>
    rw [hdd] at h3
    cases hpw : d.power.2 with
    | false =>
      have hw : d.flush = (d.power.1, 32) := by simp [Dsk.flush, hdd, hpw]
      rw [hw]
      rw [hpw] at hp
      clear hw
      go_enter Try.func47, Try.ntmps47
      go_wp2_with fail
      refine hp.mono ?_
      rintro e w1 ⟨rfl, h1, hc⟩
      simp only [errIf]
      go_wp2_with fail
      go_ret
      exact ⟨rfl, h1, hc.mono (by simp)⟩
    | true =>
      have hw : d.flush = (d.power.1.settled resFlush, 0) := by simp [Dsk.flush, hdd, hpw]
      rw [hw]
      rw [hpw] at hp
      clear hw
      go_enter Try.func47, Try.ntmps47
      go_wp2_with fail
      refine hp.mono ?_
      rintro e w1 ⟨rfl, h1, hc⟩
      simp only [errIf]
      have hS := settle_any b g m X d.power.1 83 #[] resFlush w1 h1 (fun args W => (enters_of Try.func83 (by kernel_rfl) rfl) args W) (fun k s l l1 l2 W _ _ _ hl => (flush_fn k s l W).mono fun e w' ⟨he, hw'⟩ => by
        subst hw'
        exact ⟨l, he, hl, Ch.refl _ _⟩)
      go_wp2_with fail
      refine hS.mono ?_
      rintro e w2 ⟨rfl, h2, hc2⟩
      go_wp2_with fail
      go_ret
      exact ⟨rfl, h2, (hc.mono (by simp)).trans hc2 (by simp)⟩

end Go.Proofs.Ytbkncfedahifkaa
