/-
  slices.Grow of nil; slices.Concat of slices of bytes.
-/
import Derived.Test.YtbkncfedahifkaaDFlush
set_option linter.unusedVariables false
namespace Go.Proofs.Ytbkncfedahifkaa
open Go.RowKit Go.Maps

theorem grow_nil (n : Nat) (w : World) (hn : n ≤ 140737488355328) : Calls Try.prog 98 #[.slice none 0 0, .int .i64 (n : Int)] w fun e w' => ∃ v, e = .returned v ∧ w'.ownsRow w.heap.size 5 1 v 0 [] ∧ Ch [] w w' := by
  obtain ⟨i0, hi, hzz⟩ := Option.map_eq_some_iff.1 Try.info5
  simp only [Prod.mk.injEq] at hzz
  obtain ⟨hz0, hz1, hz2⟩ := hzz
  rcases Nat.eq_zero_or_pos n with rfl | hpos
  · refine (Any8.slices_Grow_room Try.growA none 0 0 0 w (by omega) (by omega) (by omega) (by omega)).mono ?_
    rintro e w' ⟨rfl, rfl⟩
    exact ⟨_, rfl, World.ownsRow_nil _ _ _ _, Ch.refl _ _⟩
  · refine (Any8.slices_Grow_grow Try.growA i0 (.int .u8 0) hi hz0 (by omega) none 0 0 n [] w (by omega) (by omega) (by rw [hz2]; omega) (by omega) (by simp) (by simp) (by simp)).mono ?_
    rintro e w' ⟨rfl, rfl⟩
    have hge : n ≤ grownCap w (0 + n) 0 5 := by have := grownCap_ge w (0 + n) 0 5; omega
    have hle := grownCap_le_maxLen w (0 + n) 0 5 (by unfold maxLen; omega)
    have e25 : Try.growA_ren.t 25 = 5 := rfl
    rw [e25]
    generalize grownCap w (0 + n) 0 5 = G at *
    refine ⟨_, rfl, ?_, (Ch.refl [] w).drew.alloc _⟩
    have hsz : (([] : List Value).toArray ++ Builtin.zeroCells (Value.int .u8 0).cells (0 + n - 0) ++ Builtin.zeroCells (Value.int .u8 0).cells (G - (0 + n))).size = G * 1 := by
      simp [Builtin.zeroCells, Value.cells]
      omega
    have h := World.ownsRow_made (e := 5) (size := 1) (base := w.heap.size) w.drew _ G (Nat.le_refl _) hle hsz
    exact h

set_option maxRecDepth 100000 in
set_option maxHeartbeats 1000000 in
theorem concat2 (b o c : Nat) (A1 A2 : Option Addr) (n1 c1 n2 c2 : Nat) (l1 l2 : List UInt8) (w : World) (e0 : w.cell? ⟨b, o, none⟩ = some (.slice A1 n1 c1)) (e1 : w.cell? ⟨b, o + 1, none⟩ = some (.slice A2 n2 c2))
    (h1 : RdB w A1 n1 c1 l1) (h2 : RdB w A2 n2 c2 l2) (hn1 : n1 ≤ 1000000) (hn2 : n2 ≤ 1000000) :
    Calls Try.prog 85 #[.slice (some ⟨b, o, none⟩) 2 c] w fun e w' => ∃ v, e = .returned v ∧ OwnB w.heap.size (l1 ++ l2) w' v ∧ Ch [] w w' := by
  have hl1 := h1.length
  have hl2 := h2.length
  go_enter Try.func85, Try.ntmps85
  go_wp2_with fail
  go_loop [3, 11] (fun s i => (i = .int .i64 0 ∧ s = .int .i64 0) ∨ (i = .int .i64 1 ∧ s = .int .i64 (n1 : Int)) ∨ (i = .int .i64 2 ∧ s = .int .i64 ((n1 : Int) + n2))) (fun _ i => 2 - (intOf i).toNat)
  case atStart => exact .inl ⟨rfl, rfl⟩
  case round =>
    rcases hrel with ⟨rfl, rfl⟩ | ⟨rfl, rfl⟩ | ⟨rfl, rfl⟩
    · go_wp2_with fail
      go_round
      case rel => exact .inr (.inl ⟨rfl, by go_num⟩)
      case measure => simp [intOf]
    · go_wp2_with fail
      go_round
      case rel => exact .inr (.inr ⟨rfl, by go_num⟩)
      case measure => simp [intOf]
    · have hg := grow_nil (n1 + n2) w (by omega)
      rw [Int.natCast_add] at hg
      go_wp2_with fail
      refine hg.mono ?_
      rintro e w1 ⟨v1, rfl, hown, hc1⟩
      clear hg
      have hs1 := hc1.size
      go_wp2_with fail
      go_loopw [6, 27] (fun v i wr => Ch [] w wr ∧ ((i = .int .i64 0 ∧ wr.ownsRow w.heap.size 5 1 v 0 (bvs [])) ∨ (i = .int .i64 1 ∧ wr.ownsRow w.heap.size 5 1 v n1 (bvs l1)) ∨ (i = .int .i64 2 ∧ wr.ownsRow w.heap.size 5 1 v (n1 + n2) (bvs l1 ++ bvs l2)))) (fun _ i _ => 2 - (intOf i).toNat)
      case atStart => exact ⟨hc1, .inl ⟨rfl, hown⟩⟩
      case round =>
        clear hown
        obtain ⟨hc, hrel⟩ := hrel
        have hs := hc.size
        have q0 := hc.cell e0 (by simp)
        have q1 := hc.cell e1 (by simp)
        have r1 : Rd 1 wr A1 n1 c1 (bvs l1) := h1.keep hc (by simp)
        have r2 : Rd 1 wr A2 n2 c2 (bvs l2) := h2.keep hc (by simp)
        rcases hrel with ⟨rfl, ho⟩ | ⟨rfl, ho⟩ | ⟨rfl, ho⟩
        · go_wp2_with (at_builtin; refine app_rd rfl (.tmp 31) (.tmp 32) 28 5 (.int .u8 0) 1 1 (by decide) rfl Try.underlying28 Try.info5 rfl _ _ _ (bvs l1) A1 n1 c1 rfl rfl (bvs_one _) ho r1 hs (by omega) (by unfold maxLen; omega) ?_; intro v2 w2 h2' hgr hat)
          go_roundw
          case rel => exact ⟨hc.grown hgr (fun k hk => .inr (own_ge ho k hk)), .inr (.inl ⟨rfl, by simpa [bvs] using h2'⟩)⟩
          case measure => simp [intOf]
        · go_wp2_with (at_builtin; refine app_rd rfl (.tmp 31) (.tmp 32) 28 5 (.int .u8 0) 1 1 (by decide) rfl Try.underlying28 Try.info5 rfl _ _ _ (bvs l2) A2 n2 c2 rfl rfl (bvs_one _) ho r2 hs (by omega) (by unfold maxLen; omega) ?_; intro v2 w2 h2' hgr hat)
          go_roundw
          case rel => exact ⟨hc.grown hgr (fun k hk => .inr (own_ge ho k hk)), .inr (.inr ⟨rfl, h2'⟩)⟩
          case measure => simp [intOf]
        · have hl : (l1 ++ l2).length = n1 + n2 := by rw [List.length_append]; omega
          rw [← bvs_append, ← hl] at ho
          obtain ⟨A3, c3, rfl⟩ := own_slice ho
          have Ho := Lib.hid ho
          clear ho hl
          go_wp2_with fail
          go_ret
          exact ⟨_, rfl, ⟨A3, c3, rfl, Ho.out⟩, hc⟩

end Go.Proofs.Ytbkncfedahifkaa
