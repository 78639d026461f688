/-
  Package wal: begin, whole.
-/
import Derived.Test.YtbkncfedahifkaaWBegin
set_option linter.unusedVariables false
set_option linter.unusedSimpArgs false
namespace Go.Proofs.Ytbkncfedahifkaa
open Go.RowKit Go.Maps

section
variable {lb um b g m n sz turn next at_ count : Nat} {X : List Nat} {R : Nat → List UInt8}
theorem stB_lt : ∀ k a, stB R n sz k = some a → a < 18446744073709551616
  | 0, a, h => by cases h
  | k + 1, a, h => by
    unfold stB stepB at h
    split at h
    · exact stB_lt k a h
    · rename_i c hc
      have h1 := okSide_lt hc
      split at h
      · injection h with h; omega
      · rename_i d hd
        have h2 := stB_lt k d hd
        split at h <;> (injection h with h; omega)
set_option maxRecDepth 100000 in
set_option maxHeartbeats 4000000 in
theorem begin_any (w : World) (h : LogS w lb um b g m X n sz R turn next at_ count) :
    Calls Try.prog 87 #[.pointer (some ⟨lb, 0, none⟩)] w fun e w' => e = .returned (.int .i64 0) ∧ LogS w' lb um b g m X n sz R ((stB R n sz 2).getD turn) next at_ count ∧ Ch [lb] w w' := by
  have hmf : ∀ (fn : Fn) (first cap : Array Value) (w : World), (Instr.makeFunc fn first cap).run Try.prog w = .ok (.func fn first cap) w := fun _ _ _ _ => rfl
  have hlbl := lt_of_at h.cells
  have h0 := h.nil ((Ch.refl [] w).alloc (.cells #[.pointer (some ⟨lb, 0, none⟩)] 88))
  have hlp := heap_alloc_new w (.cells #[.pointer (some ⟨lb, 0, none⟩)] 88)
  have hc0 : Ch [lb] w (w.alloc (.cells #[.pointer (some ⟨lb, 0, none⟩)] 88)) := (Ch.refl _ _).alloc _
  go_enter Try.func87, Try.ntmps87
  go_wp2_with fail
  generalize hlpe : w.heap.size = lp at *
  generalize hw0 : w.alloc (.cells #[.pointer (some ⟨lb, 0, none⟩)] 88) = w0 at *
  have HLPE := Lib.hid hlpe
  clear hw0 hlpe
  go_loopw [3, 8] (fun f i wr => ∃ k : Nat, k ≤ 2 ∧ i = .int .i64 k ∧ f = .bool (stB R n sz k).isSome ∧ LogS wr lb um b g m X n sz R ((stB R n sz k).getD turn) next at_ count ∧ wr.heap[lp]? = some (.cells #[.pointer (some ⟨lb, 0, none⟩)] 88 (0, 0)) ∧ Ch [lb] w wr) (fun _ i _ => 2 - (intOf i).toNat)
  case atStart => exact ⟨0, by omega, rfl, rfl, h0, hlp, hc0⟩
  case round =>
    clear h0 hlp hc0
    obtain ⟨k, hk, rfl, rfl, hL, hlp, hch⟩ := hrel
    obtain ⟨wA, hwA⟩ : ∃ W, W = wr := ⟨_, rfl⟩
    subst hwA
    have hchs := hch.size
    by_cases hlt : k < 2
    · have hstep : stB R n sz (k + 1) = stepB (stB R n sz k) (okSide R n sz k) := rfl
      have hstl := stB_lt (R := R) (n := n) (sz := sz) k
      have HST := Lib.hid hstl
      have HSP := Lib.hid hstep
      clear hstep hstl
      generalize hst : stB R n sz k = st at *
      have HSE := Lib.hid hst
      clear hst
      have hcA : Ch [] wA ((wA.alloc (.cells #[.int .i64 (k : Int)] 3)).alloc (.cells #[.int .u64 0] 33)) := ((Ch.refl [] wA).alloc _).alloc _
      have hsp := heap_alloc2_old wA (.cells #[.int .i64 (k : Int)] 3) (.cells #[.int .u64 0] 33)
      have htp := heap_alloc2_new wA (.cells #[.int .i64 (k : Int)] 3) (.cells #[.int .u64 0] 33)
      have hsz2 : ((wA.alloc (.cells #[.int .i64 (k : Int)] 3)).alloc (.cells #[.int .u64 0] 33)).heap.size = wA.heap.size + 2 := by simp
      go_wp2_with fail
      generalize hw2 : (wA.alloc (.cells #[.int .i64 (k : Int)] 3)).alloc (.cells #[.int .u64 0] 33) = w2 at *
      clear hw2
      have hL2 := hL.nil hcA
      have hlp2 := hcA.at_ hlp (by simp)
      have htry := wtry_any 99 #[.pointer (some ⟨lp, 0, none⟩), .pointer (some ⟨wA.heap.size, 0, none⟩), .pointer (some ⟨wA.heap.size + 1, 0, none⟩)] [wA.heap.size + 1]
        (fun w' => ∃ t, okSide R n sz k = some t ∧ w'.heap[wA.heap.size + 1]? = some (.cells #[.int .u64 (t : Int)] 33 (0, 0))) (fun _ => okSide R n sz k = none) w2
        (fun W => (enters_of Try.func99 (by kernel_rfl) rfl) _ W) (by simp; omega)
        (fun w1 w2' ⟨t, h1, h2⟩ hc => ⟨t, h1, hc.at_ h2 (by simp; omega)⟩) (fun _ _ h _ => h)
        (fun W hW _ => beginC_any lp _ _ k _ W (hL2.nil hW) hlt (hW.at_ hlp2 (by simp)) (hW.at_ hsp (by simp)) (hW.at_ htp (by simp)))
      refine htry.mono ?_
      rintro e w3 ⟨hc3, he⟩
      clear htry
      have hcA3 : Ch [] wA w3 := hcA.trans hc3 (by simp)
      have hL3 := hL.nil hcA3
      have hlp3 := hcA3.at_ hlp (by simp)
      have hc3w : Ch [lb] w w3 := hch.trans hcA3 (by simp)
      rcases he with ⟨rfl, t, hok, htp3⟩ | ⟨rfl, hok⟩
      · have htb := okSide_lt hok
        have clp := cell_at hlp3 0 rfl
        have ctp := cell_at htp3 0 rfl
        have cl1 := cell_at hL3.cells 1 rfl
        have fl1 := free_at hL3.cells 1
        have hset := heap_setCell_same w3 lb 1 _ 124 (.int .u64 (t : Int)) hL3.cells
        have hL4 := hL3.re ((Ch.refl [lb] w3).setCell ⟨lb, 1, none⟩ (.int .u64 (t : Int)) (by simp)) (turn' := t) (next' := next) (at' := at_) (count' := count) (by simpa using hset) htb hL3.nextB hL3.atB hL3.countB
        have hlb3 : lp ≠ lb := by have := HLPE.out; omega
        have hlp4 := ((Ch.refl [lb] w3).setCell ⟨lb, 1, none⟩ (.int .u64 (t : Int)) (by simp)).at_ hlp3 (by simpa using hlb3)
        have hc4 := hc3w.setCell ⟨lb, 1, none⟩ (.int .u64 (t : Int)) (by simp)
        have HOK := Lib.hid hok
        have HL4 := Lib.hid (show _ ∧ _ ∧ _ from ⟨hL4, hlp4, hc4⟩)
        clear hok hset hL4 hlp4 hc4 htp3
        cases st with
        | none =>
          have hs1 : stB R n sz (k + 1) = some t := by rw [HSP.out, HOK.out]; rfl
          have HS1 := Lib.hid hs1
          clear hs1
          simp only [Option.isSome_none]
          go_wp2_with fail
          refine dr_begin (by kernel_rfl) ?_
          have hT : True := trivial
          refine dr_take 0 (some 21) (v := ?_) rfl rfl (by kernel_rfl) (by kernel_rfl) (by kernel_rfl) (fun _ _ _ h => h) rfl hT (fun W _ => ?_) ?_
          rotate_left
          · (go_simp; try with_reducible rfl)
          try simp only [Act.put, List.setIfInBounds_toArray, List.set_cons_zero, List.set_cons_succ]
          refine dr_take 1 (some 22) (v := ?_) rfl rfl (by kernel_rfl) (by kernel_rfl) (by kernel_rfl) (fun _ _ _ h => h) rfl hT (fun W _ => ?_) ?_
          rotate_left
          · (go_simp; try with_reducible rfl)
          try simp only [Act.put, List.setIfInBounds_toArray, List.set_cons_zero, List.set_cons_succ]
          refine dr_take 2 (some 23) (v := ?_) rfl rfl (by kernel_rfl) (by kernel_rfl) (by kernel_rfl) (fun _ _ _ h => h) rfl hT (fun W _ => ?_) ?_
          rotate_left
          · (go_simp; try with_reducible rfl)
          try simp only [Act.put, List.setIfInBounds_toArray, List.set_cons_zero, List.set_cons_succ]
          refine dr_take 3 (some 24) (v := ?_) rfl rfl (by kernel_rfl) (by kernel_rfl) (by kernel_rfl) (fun _ _ _ h => h) rfl hT (fun W _ => ?_) ?_
          rotate_left
          · (go_simp; try with_reducible rfl)
          try simp only [Act.put, List.setIfInBounds_toArray, List.set_cons_zero, List.set_cons_succ]
          refine dr_take 4 (some 25) (v := ?_) rfl rfl (by kernel_rfl) (by kernel_rfl) (by kernel_rfl) (fun _ _ _ h => h) rfl hT (fun W _ => ?_) ?_
          rotate_left
          · (go_simp; try with_reducible rfl)
          try simp only [Act.put, List.setIfInBounds_toArray, List.set_cons_zero, List.set_cons_succ]
          refine dr_skip 5 (some 26) rfl rfl (by kernel_rfl) (by kernel_rfl) (by kernel_rfl) (fun _ _ _ h => h) rfl hT ?_
          try simp only [Act.put, List.setIfInBounds_toArray, List.set_cons_zero, List.set_cons_succ]
          refine dr_skip 6 (some 27) rfl rfl (by kernel_rfl) (by kernel_rfl) (by kernel_rfl) (fun _ _ _ h => h) rfl hT ?_
          try simp only [Act.put, List.setIfInBounds_toArray, List.set_cons_zero, List.set_cons_succ]
          refine dr_skip 7 (some 28) rfl rfl (by kernel_rfl) (by kernel_rfl) (by kernel_rfl) (fun _ _ _ h => h) rfl hT ?_
          try simp only [Act.put, List.setIfInBounds_toArray, List.set_cons_zero, List.set_cons_succ]
          refine dr_skip 8 (some 29) rfl rfl (by kernel_rfl) (by kernel_rfl) (by kernel_rfl) (fun _ _ _ h => h) rfl hT ?_
          try simp only [Act.put, List.setIfInBounds_toArray, List.set_cons_zero, List.set_cons_succ]
          refine dr_skip 9 (some 30) rfl rfl (by kernel_rfl) (by kernel_rfl) (by kernel_rfl) (fun _ _ _ h => h) rfl hT ?_
          try simp only [Act.put, List.setIfInBounds_toArray, List.set_cons_zero, List.set_cons_succ]
          refine dr_skip 10 (some 31) rfl rfl (by kernel_rfl) (by kernel_rfl) (by kernel_rfl) (fun _ _ _ h => h) rfl hT ?_
          try simp only [Act.put, List.setIfInBounds_toArray, List.set_cons_zero, List.set_cons_succ]
          refine dr_skip 11 (some 32) rfl rfl (by kernel_rfl) (by kernel_rfl) (by kernel_rfl) (fun _ _ _ h => h) rfl hT ?_
          try simp only [Act.put, List.setIfInBounds_toArray, List.set_cons_zero, List.set_cons_succ]
          refine dr_skip 12 (some 33) rfl rfl (by kernel_rfl) (by kernel_rfl) (by kernel_rfl) (fun _ _ _ h => h) rfl hT ?_
          try simp only [Act.put, List.setIfInBounds_toArray, List.set_cons_zero, List.set_cons_succ]
          refine dr_take 13 (some 34) (v := ?_) rfl rfl (by kernel_rfl) (by kernel_rfl) (by kernel_rfl) (fun _ _ _ h => h) rfl hT (fun W _ => ?_) ?_
          rotate_left
          · (go_simp; try with_reducible rfl)
          try simp only [Act.put, List.setIfInBounds_toArray, List.set_cons_zero, List.set_cons_succ]
          refine dr_take 14 (some 35) (v := ?_) rfl rfl (by kernel_rfl) (by kernel_rfl) (by kernel_rfl) (fun _ _ _ h => h) rfl hT (fun W _ => ?_) ?_
          rotate_left
          · (go_simp; try with_reducible rfl)
          try simp only [Act.put, List.setIfInBounds_toArray, List.set_cons_zero, List.set_cons_succ]
          refine dr_take 15 (some 20) (v := ?_) rfl rfl (by kernel_rfl) (by kernel_rfl) (by kernel_rfl) (fun _ _ _ h => h) rfl hT (fun W _ => ?_) ?_
          rotate_left
          · (go_simp; try with_reducible rfl)
          try simp only [Act.put, List.setIfInBounds_toArray, List.set_cons_zero, List.set_cons_succ]
          refine dr_done (by kernel_rfl) ?_
          go_wp2_with fail
          go_roundw
          case rel => exact ⟨k + 1, by omega, by go_num, by rw [HS1.out]; rfl, by rw [HS1.out]; exact HL4.out.1.nil (Ch.refl _ _).drew, HL4.out.2.1, HL4.out.2.2.drew⟩
          case measure => simp [intOf]; omega
        | some a =>
          simp only [Option.isSome_some]
          simp only [Option.getD_some] at cl1
          have hnewE : ∀ q, newer a t = q → decide (IntKind.i64.wrap (IntKind.u64.wrap ((t : Int) - (a : Int))) > 0) = q := fun q h => h
          cases hnew : newer a t with
          | true =>
            have hs1 : stB R n sz (k + 1) = some t := by rw [HSP.out, HOK.out]; simp [stepB, hnew]
            have hgt := hnewE _ hnew
            have HS1 := Lib.hid hs1
            clear hs1 hnewE hnew
            go_wp2_with fail
            refine dr_begin (by kernel_rfl) ?_
            refine dr_more (fun W => W.cell? ⟨wA.heap.size + 1, 0, none⟩ = some (.int .u64 (t : Int)) ∧ W.cell? ⟨lp, 0, none⟩ = some (.pointer (some ⟨lb, 0, none⟩)) ∧ W.cell? ⟨lb, 1, none⟩ = some (.int .u64 (a : Int))) ?_
            have hT : True ∧ (w3.drew.cell? ⟨wA.heap.size + 1, 0, none⟩ = some (.int .u64 (t : Int)) ∧ w3.drew.cell? ⟨lp, 0, none⟩ = some (.pointer (some ⟨lb, 0, none⟩)) ∧ w3.drew.cell? ⟨lb, 1, none⟩ = some (.int .u64 (a : Int))) := ⟨trivial, ctp, clp, cl1⟩
            refine dr_take 0 (some 21) (v := ?_) rfl rfl (by kernel_rfl) (by kernel_rfl) (by kernel_rfl) (fun _ _ _ h => h) rfl hT (fun W _ => ?_) ?_
            rotate_left
            · (go_simp; try with_reducible rfl)
            try simp only [Act.put, List.setIfInBounds_toArray, List.set_cons_zero, List.set_cons_succ]
            refine dr_take 1 (some 22) (v := ?_) rfl rfl (by kernel_rfl) (by kernel_rfl) (by kernel_rfl) (fun _ _ _ h => h) rfl hT (fun W _ => ?_) ?_
            rotate_left
            · (go_simp; try with_reducible rfl)
            try simp only [Act.put, List.setIfInBounds_toArray, List.set_cons_zero, List.set_cons_succ]
            refine dr_take 2 (some 23) (v := ?_) rfl rfl (by kernel_rfl) (by kernel_rfl) (by kernel_rfl) (fun _ _ _ h => h) rfl hT (fun W _ => ?_) ?_
            rotate_left
            · (go_simp; try with_reducible rfl)
            try simp only [Act.put, List.setIfInBounds_toArray, List.set_cons_zero, List.set_cons_succ]
            refine dr_take 3 (some 24) (v := ?_) rfl rfl (by kernel_rfl) (by kernel_rfl) (by kernel_rfl) (fun _ _ _ h => h) rfl hT (fun W _ => ?_) ?_
            rotate_left
            · (go_simp; try with_reducible rfl)
            try simp only [Act.put, List.setIfInBounds_toArray, List.set_cons_zero, List.set_cons_succ]
            refine dr_take 4 (some 25) (v := ?_) rfl rfl (by kernel_rfl) (by kernel_rfl) (by kernel_rfl) (fun _ _ _ h => h) rfl hT (fun W _ => ?_) ?_
            rotate_left
            · (go_simp; try with_reducible rfl)
            try simp only [Act.put, List.setIfInBounds_toArray, List.set_cons_zero, List.set_cons_succ]
            refine dr_take 5 (some 26) (v := ?_) rfl rfl (by kernel_rfl) (by kernel_rfl) (by kernel_rfl) (fun _ _ _ h => h) rfl hT (fun W hW => ?_) ?_
            rotate_left
            · (obtain ⟨-, h1, h2, h3⟩ := hW; go_simp; try with_reducible rfl)
            try simp only [Act.put, List.setIfInBounds_toArray, List.set_cons_zero, List.set_cons_succ]
            refine dr_take 6 (some 27) (v := ?_) rfl rfl (by kernel_rfl) (by kernel_rfl) (by kernel_rfl) (fun _ _ _ h => h) rfl hT (fun W hW => ?_) ?_
            rotate_left
            · (obtain ⟨-, h1, h2, h3⟩ := hW; go_simp; try with_reducible rfl)
            try simp only [Act.put, List.setIfInBounds_toArray, List.set_cons_zero, List.set_cons_succ]
            refine dr_take 7 (some 28) (v := ?_) rfl rfl (by kernel_rfl) (by kernel_rfl) (by kernel_rfl) (fun _ _ _ h => h) rfl hT (fun W _ => ?_) ?_
            rotate_left
            · (go_simp; try with_reducible rfl)
            try simp only [Act.put, List.setIfInBounds_toArray, List.set_cons_zero, List.set_cons_succ]
            refine dr_take 8 (some 29) (v := ?_) rfl rfl (by kernel_rfl) (by kernel_rfl) (by kernel_rfl) (fun _ _ _ h => h) rfl hT (fun W _ => ?_) ?_
            rotate_left
            · (go_simp; try with_reducible rfl)
            try simp only [Act.put, List.setIfInBounds_toArray, List.set_cons_zero, List.set_cons_succ]
            refine dr_take 9 (some 30) (v := ?_) rfl rfl (by kernel_rfl) (by kernel_rfl) (by kernel_rfl) (fun _ _ _ h => h) rfl hT (fun W hW => ?_) ?_
            rotate_left
            · (obtain ⟨-, h1, h2, h3⟩ := hW; go_simp; try with_reducible rfl)
            try simp only [Act.put, List.setIfInBounds_toArray, List.set_cons_zero, List.set_cons_succ]
            refine dr_take 10 (some 31) (v := ?_) rfl rfl (by kernel_rfl) (by kernel_rfl) (by kernel_rfl) (fun _ _ _ h => h) rfl hT (fun W _ => ?_) ?_
            rotate_left
            · (go_simp; try with_reducible rfl)
            try simp only [Act.put, List.setIfInBounds_toArray, List.set_cons_zero, List.set_cons_succ]
            refine dr_take 11 (some 32) (v := ?_) rfl rfl (by kernel_rfl) (by kernel_rfl) (by kernel_rfl) (fun _ _ _ h => h) rfl hT (fun W _ => ?_) ?_
            rotate_left
            · (go_simp; try with_reducible rfl)
            try simp only [Act.put, List.setIfInBounds_toArray, List.set_cons_zero, List.set_cons_succ]
            refine dr_take 12 (some 33) (v := ?_) rfl rfl (by kernel_rfl) (by kernel_rfl) (by kernel_rfl) (fun _ _ _ h => h) rfl hT (fun W _ => ?_) ?_
            rotate_left
            · (go_simp; try with_reducible rfl)
            try simp only [Act.put, List.setIfInBounds_toArray, List.set_cons_zero, List.set_cons_succ]
            refine dr_take 13 (some 34) (v := ?_) rfl rfl (by kernel_rfl) (by kernel_rfl) (by kernel_rfl) (fun _ _ _ h => h) rfl hT (fun W _ => ?_) ?_
            rotate_left
            · (go_simp; try with_reducible rfl)
            try simp only [Act.put, List.setIfInBounds_toArray, List.set_cons_zero, List.set_cons_succ]
            refine dr_take 14 (some 35) (v := ?_) rfl rfl (by kernel_rfl) (by kernel_rfl) (by kernel_rfl) (fun _ _ _ h => h) rfl hT (fun W _ => ?_) ?_
            rotate_left
            · (go_simp; try with_reducible rfl)
            try simp only [Act.put, List.setIfInBounds_toArray, List.set_cons_zero, List.set_cons_succ]
            refine dr_take 15 (some 20) (v := ?_) rfl rfl (by kernel_rfl) (by kernel_rfl) (by kernel_rfl) (fun _ _ _ h => h) rfl hT (fun W _ => ?_) ?_
            rotate_left
            · (go_simp; try with_reducible rfl)
            try simp only [Act.put, List.setIfInBounds_toArray, List.set_cons_zero, List.set_cons_succ]
            refine dr_done (by kernel_rfl) ?_
            go_wp2_with fail
            go_roundw
            case rel => exact ⟨k + 1, by omega, by go_num, by rw [HS1.out]; rfl, by rw [HS1.out]; exact HL4.out.1.nil (Ch.refl _ _).drew, HL4.out.2.1, HL4.out.2.2.drew⟩
            case measure => simp [intOf]; omega
          | false =>
            have hs1 : stB R n sz (k + 1) = some a := by rw [HSP.out, HOK.out]; simp [stepB, hnew]
            have hgt := hnewE _ hnew
            have HS1 := Lib.hid hs1
            clear hs1 hnewE hnew
            go_wp2_with fail
            refine dr_begin (by kernel_rfl) ?_
            refine dr_more (fun W => W.cell? ⟨wA.heap.size + 1, 0, none⟩ = some (.int .u64 (t : Int)) ∧ W.cell? ⟨lp, 0, none⟩ = some (.pointer (some ⟨lb, 0, none⟩)) ∧ W.cell? ⟨lb, 1, none⟩ = some (.int .u64 (a : Int))) ?_
            have hT : True ∧ (w3.drew.cell? ⟨wA.heap.size + 1, 0, none⟩ = some (.int .u64 (t : Int)) ∧ w3.drew.cell? ⟨lp, 0, none⟩ = some (.pointer (some ⟨lb, 0, none⟩)) ∧ w3.drew.cell? ⟨lb, 1, none⟩ = some (.int .u64 (a : Int))) := ⟨trivial, ctp, clp, cl1⟩
            refine dr_take 0 (some 21) (v := ?_) rfl rfl (by kernel_rfl) (by kernel_rfl) (by kernel_rfl) (fun _ _ _ h => h) rfl hT (fun W _ => ?_) ?_
            rotate_left
            · (go_simp; try with_reducible rfl)
            try simp only [Act.put, List.setIfInBounds_toArray, List.set_cons_zero, List.set_cons_succ]
            refine dr_take 1 (some 22) (v := ?_) rfl rfl (by kernel_rfl) (by kernel_rfl) (by kernel_rfl) (fun _ _ _ h => h) rfl hT (fun W _ => ?_) ?_
            rotate_left
            · (go_simp; try with_reducible rfl)
            try simp only [Act.put, List.setIfInBounds_toArray, List.set_cons_zero, List.set_cons_succ]
            refine dr_take 2 (some 23) (v := ?_) rfl rfl (by kernel_rfl) (by kernel_rfl) (by kernel_rfl) (fun _ _ _ h => h) rfl hT (fun W _ => ?_) ?_
            rotate_left
            · (go_simp; try with_reducible rfl)
            try simp only [Act.put, List.setIfInBounds_toArray, List.set_cons_zero, List.set_cons_succ]
            refine dr_take 3 (some 24) (v := ?_) rfl rfl (by kernel_rfl) (by kernel_rfl) (by kernel_rfl) (fun _ _ _ h => h) rfl hT (fun W _ => ?_) ?_
            rotate_left
            · (go_simp; try with_reducible rfl)
            try simp only [Act.put, List.setIfInBounds_toArray, List.set_cons_zero, List.set_cons_succ]
            refine dr_take 4 (some 25) (v := ?_) rfl rfl (by kernel_rfl) (by kernel_rfl) (by kernel_rfl) (fun _ _ _ h => h) rfl hT (fun W _ => ?_) ?_
            rotate_left
            · (go_simp; try with_reducible rfl)
            try simp only [Act.put, List.setIfInBounds_toArray, List.set_cons_zero, List.set_cons_succ]
            refine dr_take 5 (some 26) (v := ?_) rfl rfl (by kernel_rfl) (by kernel_rfl) (by kernel_rfl) (fun _ _ _ h => h) rfl hT (fun W hW => ?_) ?_
            rotate_left
            · (obtain ⟨-, h1, h2, h3⟩ := hW; go_simp; try with_reducible rfl)
            try simp only [Act.put, List.setIfInBounds_toArray, List.set_cons_zero, List.set_cons_succ]
            refine dr_take 6 (some 27) (v := ?_) rfl rfl (by kernel_rfl) (by kernel_rfl) (by kernel_rfl) (fun _ _ _ h => h) rfl hT (fun W hW => ?_) ?_
            rotate_left
            · (obtain ⟨-, h1, h2, h3⟩ := hW; go_simp; try with_reducible rfl)
            try simp only [Act.put, List.setIfInBounds_toArray, List.set_cons_zero, List.set_cons_succ]
            refine dr_take 7 (some 28) (v := ?_) rfl rfl (by kernel_rfl) (by kernel_rfl) (by kernel_rfl) (fun _ _ _ h => h) rfl hT (fun W _ => ?_) ?_
            rotate_left
            · (go_simp; try with_reducible rfl)
            try simp only [Act.put, List.setIfInBounds_toArray, List.set_cons_zero, List.set_cons_succ]
            refine dr_take 8 (some 29) (v := ?_) rfl rfl (by kernel_rfl) (by kernel_rfl) (by kernel_rfl) (fun _ _ _ h => h) rfl hT (fun W _ => ?_) ?_
            rotate_left
            · (go_simp; try with_reducible rfl)
            try simp only [Act.put, List.setIfInBounds_toArray, List.set_cons_zero, List.set_cons_succ]
            refine dr_take 9 (some 30) (v := ?_) rfl rfl (by kernel_rfl) (by kernel_rfl) (by kernel_rfl) (fun _ _ _ h => h) rfl hT (fun W hW => ?_) ?_
            rotate_left
            · (obtain ⟨-, h1, h2, h3⟩ := hW; go_simp; try with_reducible rfl)
            try simp only [Act.put, List.setIfInBounds_toArray, List.set_cons_zero, List.set_cons_succ]
            refine dr_take 10 (some 31) (v := ?_) rfl rfl (by kernel_rfl) (by kernel_rfl) (by kernel_rfl) (fun _ _ _ h => h) rfl hT (fun W _ => ?_) ?_
            rotate_left
            · (go_simp; try with_reducible rfl)
            try simp only [Act.put, List.setIfInBounds_toArray, List.set_cons_zero, List.set_cons_succ]
            refine dr_take 11 (some 32) (v := ?_) rfl rfl (by kernel_rfl) (by kernel_rfl) (by kernel_rfl) (fun _ _ _ h => h) rfl hT (fun W _ => ?_) ?_
            rotate_left
            · (go_simp; try with_reducible rfl)
            try simp only [Act.put, List.setIfInBounds_toArray, List.set_cons_zero, List.set_cons_succ]
            refine dr_take 12 (some 33) (v := ?_) rfl rfl (by kernel_rfl) (by kernel_rfl) (by kernel_rfl) (fun _ _ _ h => h) rfl hT (fun W _ => ?_) ?_
            rotate_left
            · (go_simp; try with_reducible rfl)
            try simp only [Act.put, List.setIfInBounds_toArray, List.set_cons_zero, List.set_cons_succ]
            refine dr_take 13 (some 34) (v := ?_) rfl rfl (by kernel_rfl) (by kernel_rfl) (by kernel_rfl) (fun _ _ _ h => h) rfl hT (fun W _ => ?_) ?_
            rotate_left
            · (go_simp; try with_reducible rfl)
            try simp only [Act.put, List.setIfInBounds_toArray, List.set_cons_zero, List.set_cons_succ]
            refine dr_take 14 (some 35) (v := ?_) rfl rfl (by kernel_rfl) (by kernel_rfl) (by kernel_rfl) (fun _ _ _ h => h) rfl hT (fun W _ => ?_) ?_
            rotate_left
            · (go_simp; try with_reducible rfl)
            try simp only [Act.put, List.setIfInBounds_toArray, List.set_cons_zero, List.set_cons_succ]
            refine dr_take 15 (some 20) (v := ?_) rfl rfl (by kernel_rfl) (by kernel_rfl) (by kernel_rfl) (fun _ _ _ h => h) rfl hT (fun W _ => ?_) ?_
            rotate_left
            · (go_simp; try with_reducible rfl)
            try simp only [Act.put, List.setIfInBounds_toArray, List.set_cons_zero, List.set_cons_succ]
            refine dr_done (by kernel_rfl) ?_
            go_wp2_with fail
            go_roundw
            case rel => exact ⟨k + 1, by omega, by go_num, by rw [HS1.out]; rfl, by rw [HS1.out]; exact hL3.nil (Ch.refl _ _).drew, hlp3, hc3w.drew⟩
            case measure => simp [intOf]; omega
      · have hs1 : stB R n sz (k + 1) = st := by rw [HSP.out, hok]; rfl
        have HS1 := Lib.hid hs1
        clear hs1 hok
        go_wp2_with fail
        refine dr_begin (by kernel_rfl) ?_
        have hT : True := trivial
        refine dr_take 0 (some 21) (v := ?_) rfl rfl (by kernel_rfl) (by kernel_rfl) (by kernel_rfl) (fun _ _ _ h => h) rfl hT (fun W _ => ?_) ?_
        rotate_left
        · (go_simp; try with_reducible rfl)
        try simp only [Act.put, List.setIfInBounds_toArray, List.set_cons_zero, List.set_cons_succ]
        refine dr_take 1 (some 22) (v := ?_) rfl rfl (by kernel_rfl) (by kernel_rfl) (by kernel_rfl) (fun _ _ _ h => h) rfl hT (fun W _ => ?_) ?_
        rotate_left
        · (go_simp; try with_reducible rfl)
        try simp only [Act.put, List.setIfInBounds_toArray, List.set_cons_zero, List.set_cons_succ]
        refine dr_skip 2 (some 23) rfl rfl (by kernel_rfl) (by kernel_rfl) (by kernel_rfl) (fun _ _ _ h => h) rfl hT ?_
        try simp only [Act.put, List.setIfInBounds_toArray, List.set_cons_zero, List.set_cons_succ]
        refine dr_skip 3 (some 24) rfl rfl (by kernel_rfl) (by kernel_rfl) (by kernel_rfl) (fun _ _ _ h => h) rfl hT ?_
        try simp only [Act.put, List.setIfInBounds_toArray, List.set_cons_zero, List.set_cons_succ]
        refine dr_skip 4 (some 25) rfl rfl (by kernel_rfl) (by kernel_rfl) (by kernel_rfl) (fun _ _ _ h => h) rfl hT ?_
        try simp only [Act.put, List.setIfInBounds_toArray, List.set_cons_zero, List.set_cons_succ]
        refine dr_skip 5 (some 26) rfl rfl (by kernel_rfl) (by kernel_rfl) (by kernel_rfl) (fun _ _ _ h => h) rfl hT ?_
        try simp only [Act.put, List.setIfInBounds_toArray, List.set_cons_zero, List.set_cons_succ]
        refine dr_skip 6 (some 27) rfl rfl (by kernel_rfl) (by kernel_rfl) (by kernel_rfl) (fun _ _ _ h => h) rfl hT ?_
        try simp only [Act.put, List.setIfInBounds_toArray, List.set_cons_zero, List.set_cons_succ]
        refine dr_skip 7 (some 28) rfl rfl (by kernel_rfl) (by kernel_rfl) (by kernel_rfl) (fun _ _ _ h => h) rfl hT ?_
        try simp only [Act.put, List.setIfInBounds_toArray, List.set_cons_zero, List.set_cons_succ]
        refine dr_skip 8 (some 29) rfl rfl (by kernel_rfl) (by kernel_rfl) (by kernel_rfl) (fun _ _ _ h => h) rfl hT ?_
        try simp only [Act.put, List.setIfInBounds_toArray, List.set_cons_zero, List.set_cons_succ]
        refine dr_skip 9 (some 30) rfl rfl (by kernel_rfl) (by kernel_rfl) (by kernel_rfl) (fun _ _ _ h => h) rfl hT ?_
        try simp only [Act.put, List.setIfInBounds_toArray, List.set_cons_zero, List.set_cons_succ]
        refine dr_skip 10 (some 31) rfl rfl (by kernel_rfl) (by kernel_rfl) (by kernel_rfl) (fun _ _ _ h => h) rfl hT ?_
        try simp only [Act.put, List.setIfInBounds_toArray, List.set_cons_zero, List.set_cons_succ]
        refine dr_skip 11 (some 32) rfl rfl (by kernel_rfl) (by kernel_rfl) (by kernel_rfl) (fun _ _ _ h => h) rfl hT ?_
        try simp only [Act.put, List.setIfInBounds_toArray, List.set_cons_zero, List.set_cons_succ]
        refine dr_skip 12 (some 33) rfl rfl (by kernel_rfl) (by kernel_rfl) (by kernel_rfl) (fun _ _ _ h => h) rfl hT ?_
        try simp only [Act.put, List.setIfInBounds_toArray, List.set_cons_zero, List.set_cons_succ]
        refine dr_skip 13 (some 34) rfl rfl (by kernel_rfl) (by kernel_rfl) (by kernel_rfl) (fun _ _ _ h => h) rfl hT ?_
        try simp only [Act.put, List.setIfInBounds_toArray, List.set_cons_zero, List.set_cons_succ]
        refine dr_take 14 (some 35) (v := ?_) rfl rfl (by kernel_rfl) (by kernel_rfl) (by kernel_rfl) (fun _ _ _ h => h) rfl hT (fun W _ => ?_) ?_
        rotate_left
        · (go_simp; try with_reducible rfl)
        try simp only [Act.put, List.setIfInBounds_toArray, List.set_cons_zero, List.set_cons_succ]
        refine dr_take 15 (some 20) (v := ?_) rfl rfl (by kernel_rfl) (by kernel_rfl) (by kernel_rfl) (fun _ _ _ h => h) rfl hT (fun W _ => ?_) ?_
        rotate_left
        · (go_simp; try with_reducible rfl)
        try simp only [Act.put, List.setIfInBounds_toArray, List.set_cons_zero, List.set_cons_succ]
        refine dr_done (by kernel_rfl) ?_
        go_wp2_with fail
        go_roundw
        case rel => exact ⟨k + 1, by omega, by go_num, by rw [HS1.out], by rw [HS1.out]; exact hL3.nil (Ch.refl _ _).drew, hlp3, hc3w.drew⟩
        case measure => simp [intOf]; omega
    · obtain rfl : k = 2 := by omega
      clear hlt hk
      go_wp2_with fail
      go_ret
      exact ⟨rfl, hL, hch⟩
end

end Go.Proofs.Ytbkncfedahifkaa
