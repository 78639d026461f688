/-
  The statements of layer 4: same, size.
-/
import Derived.Test.YtbkncfedahifkaaWBatch
set_option linter.unusedVariables false
set_option linter.unusedSimpArgs false
namespace Go.Proofs.Ytbkncfedahifkaa
open Go.RowKit Go.Maps

theorem neq_str (l r : List UInt8) : binOp .neq 9 (.string (str l)) (.string (str r)) = pure (.bool (!decide (l = r))) := by
  rw [binOp_string_neq]
  congr 2
  by_cases h : l = r
  · subst h; simp
  · have : ¬ (str l).toList = (str r).toList := fun e => h (by simpa [str_toList] using e)
    simp [h, this]

set_option maxRecDepth 100000 in
set_option maxHeartbeats 2000000 in
theorem same_any (A A' : Option Addr) (n n' c c' : Nat) (F F' : List Nat) (rs rs' : List (List UInt8)) (w : World) (h : Recs w F A n c rs) (h' : Recs w F' A' n' c' rs') (hn : n ≤ 1000000000) (hn' : n' ≤ 1000000000) :
    Calls Try.prog 59 #[.slice A n c, .slice A' n' c'] w fun e w' => e = .returned (.bool (decide (rs = rs'))) ∧ Ch [] w w' := by
  have hl := h.len
  have hl' := h'.len
  go_enter Try.func59, Try.ntmps59
  by_cases hne : n = n'
  · subst hne
    go_wp2_with fail
    go_loopw [5] (fun ki wr => ∃ k : Nat, k ≤ n ∧ ki = .int .i64 (k : Int) ∧ rs.take k = rs'.take k ∧ Ch [] w wr) (fun ki _ => n - (intOf ki).toNat)
    case atStart => exact ⟨0, by omega, rfl, by simp, Ch.refl _ _⟩
    case round =>
      obtain ⟨k, hk, rfl, hT, hch⟩ := hrel
      obtain ⟨wA, hwA⟩ : ∃ W, W = wr := ⟨_, rfl⟩
      subst hwA
      by_cases hlt : k < n
      · obtain ⟨b1, o1, A1, n1, c1, rfl, hc1, hr1, _, hn1⟩ := (h.nil hch).at0 k (by omega)
        obtain ⟨b2, o2, A2, n2, c2, rfl, hc2, hr2, _, hn2⟩ := (h'.nil hch).at0 k (by omega)
        have hs1 := conv_str (hr1.keep (F := []) (Ch.refl [] wA).drew (by simp)) 28 5 9 Try.underlying28 Try.underlying5 Try.underlying9
        have hs2 := conv_str (hr2.keep (F := []) (Ch.refl [] wA).drew (by simp)) 28 5 9 Try.underlying28 Try.underlying5 Try.underlying9
        have e1 := List.take_succ_eq_append_getElem (l := rs) (i := k) (by omega)
        have e2 := List.take_succ_eq_append_getElem (l := rs') (i := k) (by omega)
        generalize hx : rs[k]'(by omega) = x at *
        generalize hy : rs'[k]'(by omega) = y at *
        have hnq := neq_str x y
        have E1 := Lib.hid e1
        have E2 := Lib.hid e2
        have HT := Lib.hid hT
        have HX := Lib.hid hx
        have HY := Lib.hid hy
        clear e1 e2 hT hx hy hn1 hn2
        by_cases hxy : x = y
        · subst hxy
          simp only [decide_true, Bool.not_true] at hnq
          go_wp2_with fail
          refine dr_begin (by kernel_rfl) ?_
          refine dr_more (fun W => W.cell? ⟨b1, o1 + k, none⟩ = some (.slice A1 n1 c1) ∧ W.cell? ⟨b2, o2 + k, none⟩ = some (.slice A2 n2 c2) ∧ (convert 28 9 (.slice A1 n1 c1)).run Try.prog W = .ok (.string (str x)) W ∧ (convert 28 9 (.slice A2 n2 c2)).run Try.prog W = .ok (.string (str x)) W) ?_
          have hT : True ∧ (wA.drew.cell? ⟨b1, o1 + k, none⟩ = some (.slice A1 n1 c1) ∧ wA.drew.cell? ⟨b2, o2 + k, none⟩ = some (.slice A2 n2 c2) ∧ (convert 28 9 (.slice A1 n1 c1)).run Try.prog wA.drew = .ok (.string (str x)) wA.drew ∧ (convert 28 9 (.slice A2 n2 c2)).run Try.prog wA.drew = .ok (.string (str x)) wA.drew) := ⟨trivial, hc1, hc2, hs1, hs2⟩
          refine dr_take 0 (some 17) (v := ?_) rfl rfl (by kernel_rfl) (by kernel_rfl) (by kernel_rfl) (fun _ _ _ h => h) rfl hT (fun W _ => ?_) ?_
          rotate_left
          · (go_simp; try with_reducible rfl)
          try simp only [Act.put, List.setIfInBounds_toArray, List.set_cons_zero, List.set_cons_succ]
          refine dr_take 1 (some 18) (v := ?_) rfl rfl (by kernel_rfl) (by kernel_rfl) (by kernel_rfl) (fun _ _ _ h => h) rfl hT (fun W _ => ?_) ?_
          rotate_left
          · (go_simp; try with_reducible rfl)
          try simp only [Act.put, List.setIfInBounds_toArray, List.set_cons_zero, List.set_cons_succ]
          refine dr_take 2 (some 19) (v := ?_) rfl rfl (by kernel_rfl) (by kernel_rfl) (by kernel_rfl) (fun _ _ _ h => h) rfl hT (fun W _ => ?_) ?_
          rotate_left
          · (go_simp; try with_reducible rfl)
          try simp only [Act.put, List.setIfInBounds_toArray, List.set_cons_zero, List.set_cons_succ]
          refine dr_take 3 (some 20) (v := ?_) rfl rfl (by kernel_rfl) (by kernel_rfl) (by kernel_rfl) (fun _ _ _ h => h) rfl hT (fun W hW => ?_) ?_
          rotate_left
          · (have h1 := hW.2.1; go_simp; try with_reducible rfl)
          try simp only [Act.put, List.setIfInBounds_toArray, List.set_cons_zero, List.set_cons_succ]
          refine dr_take 4 (some 21) (v := ?_) rfl rfl (by kernel_rfl) (by kernel_rfl) (by kernel_rfl) (fun _ _ _ h => h) rfl hT (fun W hW => ?_) ?_
          rotate_left
          · (have h1 := hW.2.2.2.1; go_simp; try with_reducible rfl)
          try simp only [Act.put, List.setIfInBounds_toArray, List.set_cons_zero, List.set_cons_succ]
          refine dr_take 5 (some 22) (v := ?_) rfl rfl (by kernel_rfl) (by kernel_rfl) (by kernel_rfl) (fun _ _ _ h => h) rfl hT (fun W _ => ?_) ?_
          rotate_left
          · (go_simp; try with_reducible rfl)
          try simp only [Act.put, List.setIfInBounds_toArray, List.set_cons_zero, List.set_cons_succ]
          refine dr_take 6 (some 23) (v := ?_) rfl rfl (by kernel_rfl) (by kernel_rfl) (by kernel_rfl) (fun _ _ _ h => h) rfl hT (fun W _ => ?_) ?_
          rotate_left
          · (go_simp; try with_reducible rfl)
          try simp only [Act.put, List.setIfInBounds_toArray, List.set_cons_zero, List.set_cons_succ]
          refine dr_take 7 (some 24) (v := ?_) rfl rfl (by kernel_rfl) (by kernel_rfl) (by kernel_rfl) (fun _ _ _ h => h) rfl hT (fun W _ => ?_) ?_
          rotate_left
          · (go_simp; try with_reducible rfl)
          try simp only [Act.put, List.setIfInBounds_toArray, List.set_cons_zero, List.set_cons_succ]
          refine dr_take 8 (some 25) (v := ?_) rfl rfl (by kernel_rfl) (by kernel_rfl) (by kernel_rfl) (fun _ _ _ h => h) rfl hT (fun W hW => ?_) ?_
          rotate_left
          · (have h1 := hW.2.2.1; go_simp; try with_reducible rfl)
          try simp only [Act.put, List.setIfInBounds_toArray, List.set_cons_zero, List.set_cons_succ]
          refine dr_take 9 (some 26) (v := ?_) rfl rfl (by kernel_rfl) (by kernel_rfl) (by kernel_rfl) (fun _ _ _ h => h) rfl hT (fun W hW => ?_) ?_
          rotate_left
          · (have h1 := hW.2.2.2.2; go_simp; try with_reducible rfl)
          try simp only [Act.put, List.setIfInBounds_toArray, List.set_cons_zero, List.set_cons_succ]
          refine dr_take 10 (some 27) (v := ?_) rfl rfl (by kernel_rfl) (by kernel_rfl) (by kernel_rfl) (fun _ _ _ h => h) rfl hT (fun W _ => ?_) ?_
          rotate_left
          · (go_simp; try with_reducible rfl)
          try simp only [Act.put, List.setIfInBounds_toArray, List.set_cons_zero, List.set_cons_succ]
          refine dr_done (by kernel_rfl) ?_
          go_wp2_with fail
          refine ⟨⟨k + 1, by omega, by go_num, by rw [E1.out, E2.out, HT.out], hch.drew⟩, ?_⟩
          simp [intOf]
          omega
        · simp only [hxy, decide_false, Bool.not_false] at hnq
          go_wp2_with fail
          refine dr_begin (by kernel_rfl) ?_
          refine dr_more (fun W => W.cell? ⟨b1, o1 + k, none⟩ = some (.slice A1 n1 c1) ∧ W.cell? ⟨b2, o2 + k, none⟩ = some (.slice A2 n2 c2) ∧ (convert 28 9 (.slice A1 n1 c1)).run Try.prog W = .ok (.string (str x)) W ∧ (convert 28 9 (.slice A2 n2 c2)).run Try.prog W = .ok (.string (str y)) W) ?_
          have hT : True ∧ (wA.drew.cell? ⟨b1, o1 + k, none⟩ = some (.slice A1 n1 c1) ∧ wA.drew.cell? ⟨b2, o2 + k, none⟩ = some (.slice A2 n2 c2) ∧ (convert 28 9 (.slice A1 n1 c1)).run Try.prog wA.drew = .ok (.string (str x)) wA.drew ∧ (convert 28 9 (.slice A2 n2 c2)).run Try.prog wA.drew = .ok (.string (str y)) wA.drew) := ⟨trivial, hc1, hc2, hs1, hs2⟩
          refine dr_take 0 (some 17) (v := ?_) rfl rfl (by kernel_rfl) (by kernel_rfl) (by kernel_rfl) (fun _ _ _ h => h) rfl hT (fun W _ => ?_) ?_
          rotate_left
          · (go_simp; try with_reducible rfl)
          try simp only [Act.put, List.setIfInBounds_toArray, List.set_cons_zero, List.set_cons_succ]
          refine dr_take 1 (some 18) (v := ?_) rfl rfl (by kernel_rfl) (by kernel_rfl) (by kernel_rfl) (fun _ _ _ h => h) rfl hT (fun W _ => ?_) ?_
          rotate_left
          · (go_simp; try with_reducible rfl)
          try simp only [Act.put, List.setIfInBounds_toArray, List.set_cons_zero, List.set_cons_succ]
          refine dr_take 2 (some 19) (v := ?_) rfl rfl (by kernel_rfl) (by kernel_rfl) (by kernel_rfl) (fun _ _ _ h => h) rfl hT (fun W _ => ?_) ?_
          rotate_left
          · (go_simp; try with_reducible rfl)
          try simp only [Act.put, List.setIfInBounds_toArray, List.set_cons_zero, List.set_cons_succ]
          refine dr_take 3 (some 20) (v := ?_) rfl rfl (by kernel_rfl) (by kernel_rfl) (by kernel_rfl) (fun _ _ _ h => h) rfl hT (fun W hW => ?_) ?_
          rotate_left
          · (have h1 := hW.2.1; go_simp; try with_reducible rfl)
          try simp only [Act.put, List.setIfInBounds_toArray, List.set_cons_zero, List.set_cons_succ]
          refine dr_take 4 (some 21) (v := ?_) rfl rfl (by kernel_rfl) (by kernel_rfl) (by kernel_rfl) (fun _ _ _ h => h) rfl hT (fun W hW => ?_) ?_
          rotate_left
          · (have h1 := hW.2.2.2.1; go_simp; try with_reducible rfl)
          try simp only [Act.put, List.setIfInBounds_toArray, List.set_cons_zero, List.set_cons_succ]
          refine dr_take 5 (some 22) (v := ?_) rfl rfl (by kernel_rfl) (by kernel_rfl) (by kernel_rfl) (fun _ _ _ h => h) rfl hT (fun W _ => ?_) ?_
          rotate_left
          · (go_simp; try with_reducible rfl)
          try simp only [Act.put, List.setIfInBounds_toArray, List.set_cons_zero, List.set_cons_succ]
          refine dr_take 6 (some 23) (v := ?_) rfl rfl (by kernel_rfl) (by kernel_rfl) (by kernel_rfl) (fun _ _ _ h => h) rfl hT (fun W _ => ?_) ?_
          rotate_left
          · (go_simp; try with_reducible rfl)
          try simp only [Act.put, List.setIfInBounds_toArray, List.set_cons_zero, List.set_cons_succ]
          refine dr_take 7 (some 24) (v := ?_) rfl rfl (by kernel_rfl) (by kernel_rfl) (by kernel_rfl) (fun _ _ _ h => h) rfl hT (fun W _ => ?_) ?_
          rotate_left
          · (go_simp; try with_reducible rfl)
          try simp only [Act.put, List.setIfInBounds_toArray, List.set_cons_zero, List.set_cons_succ]
          refine dr_take 8 (some 25) (v := ?_) rfl rfl (by kernel_rfl) (by kernel_rfl) (by kernel_rfl) (fun _ _ _ h => h) rfl hT (fun W hW => ?_) ?_
          rotate_left
          · (have h1 := hW.2.2.1; go_simp; try with_reducible rfl)
          try simp only [Act.put, List.setIfInBounds_toArray, List.set_cons_zero, List.set_cons_succ]
          refine dr_take 9 (some 26) (v := ?_) rfl rfl (by kernel_rfl) (by kernel_rfl) (by kernel_rfl) (fun _ _ _ h => h) rfl hT (fun W hW => ?_) ?_
          rotate_left
          · (have h1 := hW.2.2.2.2; go_simp; try with_reducible rfl)
          try simp only [Act.put, List.setIfInBounds_toArray, List.set_cons_zero, List.set_cons_succ]
          refine dr_take 10 (some 27) (v := ?_) rfl rfl (by kernel_rfl) (by kernel_rfl) (by kernel_rfl) (fun _ _ _ h => h) rfl hT (fun W _ => ?_) ?_
          rotate_left
          · (go_simp; try with_reducible rfl)
          try simp only [Act.put, List.setIfInBounds_toArray, List.set_cons_zero, List.set_cons_succ]
          refine dr_done (by kernel_rfl) ?_
          go_wp2_with fail
          go_ret
          refine ⟨?_, hch.drew⟩
          have hne : rs ≠ rs' := fun e => hxy (by rw [← HX.out, ← HY.out]; simp [e])
          simp [hne]
      · obtain rfl : k = n := by omega
        clear hlt hk
        go_wp2_with fail
        go_ret
        refine ⟨?_, hch⟩
        have he : rs = rs' := by
          rw [List.take_of_length_le (by omega), List.take_of_length_le (by omega)] at hT
          exact hT
        simp [he]
  · go_wp2_with fail
    go_ret
    refine ⟨?_, Ch.refl _ _⟩
    have he : rs ≠ rs' := fun e => hne (by rw [← hl, ← hl', e])
    simp [he]

end Go.Proofs.Ytbkncfedahifkaa
