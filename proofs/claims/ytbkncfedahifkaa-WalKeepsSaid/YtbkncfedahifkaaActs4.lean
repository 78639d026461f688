/-
  An argument that is a slice of acts, opened; light, size.
-/
import Derived.Test.YtbkncfedahifkaaWHeld
import Derived.Test.YtbkncfedahifkaaOpens
set_option linter.unusedVariables false
set_option linter.unusedSimpArgs false
namespace Go.Proofs.Ytbkncfedahifkaa
open Go.ChangeShapes Go.WideShapes Go.Deep Go.RowKit

/-- An act: what it does; a slice of bytes. -/
structure ActL where
  what : Int
  A : Option Addr
  n : Nat
  c : Nat
  l : List UInt8
def ActL.cells (a : ActL) : List Value := [.int .i64 a.what, .slice a.A a.n a.c]
def ActL.ok (w : World) (a : ActL) : Prop := (-9223372036854775808 ≤ a.what ∧ a.what ≤ 9223372036854775807) ∧ RdB w a.A a.n a.c a.l

set_option maxRecDepth 100000 in
theorem rd_acts4 {H : Type} {enc : TypeId × Value → H} {w : World} {base : Nat} {sp : Nat → Bool} {held : Bool} {A : Option Addr} {n c : Nat} {d : DataW H} {p : List MemPlace}
    (h : DataW.Trod enc Try.prog w base sp held 98 (.slice A n c) d p) : ∃ l : List ActL, l.length = n ∧ Rd 2 w A n c (l.flatMap ActL.cells) ∧ ∀ x ∈ l, x.ok w := by
  refine rd_open ActL.cells (fun x => x.ok w) Try.underlying98 (by kernel_rfl) (fun _ => rfl) (by omega) (fun n cs x hx hl => ?_) h
  obtain ⟨y0, y1, k, _, _, h0, h1⟩ := trod_struct2 Try.underlying101 hx
  match cs, hl with
  | [v0, v1], _ =>
    have c0 : Try.prog.cellsOf 3 = 1 := by kernel_rfl
    have c1 : Try.prog.cellsOf 28 = 1 := by kernel_rfl
    simp only [c0, c1, List.drop_zero, List.drop_succ_cons, List.take_succ_cons, List.take_zero] at h0 h1
    obtain ⟨z0, e0, _, w0⟩ := DataW.trod_int Try.underlying3 h0
    simp only [List.cons.injEq, and_true] at e0
    subst e0
    have b0 := bounds_i64' w0
    have hs : ∃ A n c, v1 = .slice A n c := by
      rcases open_slice Try.underlying28 h1 with ⟨e, _⟩ | ⟨a, len, cap, _, _, _, _, e, _⟩
      · simp only [List.cons.injEq, and_true] at e; exact ⟨_, _, _, e⟩
      · simp only [List.cons.injEq, and_true] at e; exact ⟨_, _, _, e⟩
    obtain ⟨A', n', c', rfl⟩ := hs
    obtain ⟨l, _, hr⟩ := rd_u8s (A := A') (n := n') (c := c') (d := y1.1) (p := y1.2) Try.underlying28 Try.underlying5 (by kernel_rfl) ⟨k, h1⟩
    exact ⟨⟨z0, A', n', c', l⟩, rfl, b0, hr⟩

section
variable {w w' : World} {A : Option Addr} {n c : Nat} {l : List ActL}
theorem ActL.ok.nil {a : ActL} (h : a.ok w) (hc : Ch [] w w') : a.ok w' := ⟨h.1, h.2.keep hc (by simp)⟩
theorem acts_cells (h : Rd 2 w A n c (l.flatMap ActL.cells)) (k : Nat) (hk : k < l.length) (hn : l.length = n) : ∃ b o, A = some ⟨b, o, none⟩ ∧ w.cell? ⟨b, o + k * 2, none⟩ = some (.int .i64 l[k].what) ∧ w.cell? ⟨b, o + k * 2 + 1, none⟩ = some (.slice l[k].A l[k].n l[k].c) := by
  obtain ⟨b, o, e, hc⟩ := h.cells (by omega)
  refine ⟨b, o, e, hc (k * 2) _ ?_, ?_⟩
  · have := flatMap_even_get ActL.cells 2 (fun _ => rfl) l k hk 0 (by omega)
    rw [Nat.add_zero] at this
    rw [this]; rfl
  · have := flatMap_even_get ActL.cells 2 (fun _ => rfl) l k hk 1 (by omega)
    rw [Nat.add_assoc]
    exact hc (k * 2 + 1) _ (by rw [this]; rfl)
end

def lightL (l : List ActL) : Bool := decide (l.length ≤ 30) && l.all (fun a => decide (a.n ≤ 6))
set_option maxRecDepth 100000 in
set_option maxHeartbeats 1000000 in
theorem light_any (A : Option Addr) (n c : Nat) (l : List ActL) (w : World) (hr : Rd 2 w A n c (l.flatMap ActL.cells)) (hn : l.length = n) :
    Calls Try.prog 62 #[.slice A n c] w fun e w' => e = .returned (.bool (lightL l)) ∧ w = w' := by
  have hcc := hr.cap
  have hcm := hr.max
  go_enter Try.func62, Try.ntmps62
  by_cases h30 : n ≤ 30
  · go_wp2_with fail
    go_loop [3] (fun ki => ∃ k : Nat, k ≤ n ∧ ki = .int .i64 (k : Int) ∧ (l.take k).all (fun a => decide (a.n ≤ 6)) = true) (fun ki => n - (intOf ki).toNat)
    case atStart => exact ⟨0, by omega, rfl, by simp⟩
    case round =>
      obtain ⟨k, hk, rfl, hT⟩ := hrel
      by_cases hlt : k < n
      · obtain ⟨b, o, rfl, h0, h1⟩ := acts_cells hr k (by omega) hn
        have e1 := List.take_succ_eq_append_getElem (l := l) (i := k) (by omega)
        have hmem : l[k]'(by omega) ∈ l := List.getElem_mem _
        generalize l[k]'(by omega) = x at *
        have E1 := Lib.hid e1
        have HT := Lib.hid hT
        clear e1 hT h0
        by_cases hx : x.n ≤ 6
        · go_wp2_with fail
          go_round
          case rel => exact ⟨k + 1, by omega, by go_num, by rw [E1.out, List.all_append, HT.out]; simpa using hx⟩
          case measure => simp [intOf]; omega
        · go_wp2_with fail
          go_ret
          refine ⟨?_, rfl⟩
          have : lightL l = false := by
            unfold lightL
            rw [Bool.and_eq_false_iff]
            right
            rw [List.all_eq_false]
            exact ⟨x, hmem, by simpa using hx⟩
          rw [this]; rfl
      · obtain rfl : k = n := by omega
        clear hlt hk
        go_wp2_with fail
        go_ret
        refine ⟨?_, rfl⟩
        have : lightL l = true := by
          unfold lightL
          rw [List.take_of_length_le (by omega)] at hT
          rw [hT]
          simp
          omega
        rw [this]; rfl
  · go_wp2_with fail
    go_ret
    refine ⟨?_, rfl⟩
    have : lightL l = false := by
      unfold lightL
      simp
      omega
    rw [this]; rfl

set_option maxRecDepth 100000 in
set_option maxHeartbeats 1000000 in
theorem size_rows (A : Option Addr) (n c : Nat) (F : List Nat) (rs : List (List UInt8)) (w : World) (h : Recs w F A n c rs) (hn : n ≤ 1000) (hs : ∀ r ∈ rs, r.length ≤ 1000) :
    Calls Try.prog 64 #[.slice A n c] w fun e w' => e = .returned (.int .i64 (sizeL rs : Int)) ∧ w = w' := by
  have hl := h.len
  have HS := Lib.hid hs
  clear hs
  go_enter Try.func64, Try.ntmps64
  go_wp2_with fail
  go_loop [3, 4] (fun ni ki => ∃ k : Nat, k ≤ n ∧ ki = .int .i64 (k : Int) ∧ ni = .int .i64 (sizeL (rs.take k) : Int) ∧ sizeL (rs.take k) ≤ k * 1016) (fun _ ki => n - (intOf ki).toNat)
  case atStart => exact ⟨0, by omega, rfl, rfl, by simp [sizeL]⟩
  case round =>
    obtain ⟨k, hk, rfl, rfl, hT⟩ := hrel
    by_cases hlt : k < n
    · obtain ⟨b1, o1, A1, n1, c1, rfl, hc1, hr1, _, hn1⟩ := h.at0 k (by omega)
      have e1 := List.take_succ_eq_append_getElem (l := rs) (i := k) (by omega)
      have hb := HS.out _ (List.getElem_mem (l := rs) (n := k) (by omega))
      have e2 : sizeL (rs.take (k + 1)) = sizeL (rs.take k) + (n1 + 16) := by
        rw [e1, sizeL, List.map_append, List.sum_append]
        simp only [List.map_cons, List.map_nil, List.sum_cons, List.sum_nil, sizeL]
        omega
      generalize hx : sizeL (rs.take k) = x at *
      have E2 := Lib.hid e2
      clear e1 e2 hx
      go_wp2_with fail
      go_round
      case rel => exact ⟨k + 1, by omega, by go_num, by rw [E2.out]; go_num, by rw [E2.out]; omega⟩
      case measure => simp [intOf]; omega
    · obtain rfl : k = n := by omega
      rw [List.take_of_length_le (by omega)]
      clear hlt hk
      go_wp2_with fail
      go_ret
      exact ⟨rfl, rfl⟩

end Go.Proofs.Ytbkncfedahifkaa
