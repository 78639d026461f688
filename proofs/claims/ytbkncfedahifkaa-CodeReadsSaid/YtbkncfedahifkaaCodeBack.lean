/-
  CodeBack: what is written is read back as it was.
-/
import Derived.Test.YtbkncfedahifkaaRSteps
import Derived.Test.YtbkncfedahifkaaCodeWrites
set_option linter.unusedVariables false
set_option linter.unusedSimpArgs false
namespace Go.Proofs.Ytbkncfedahifkaa
open Go.RowKit

theorem tmod2 (n : Nat) : (n : Int).tmod 2 = (n : Int) % 2 := Int.tmod_eq_emod_of_nonneg (by omega)
theorem partBytes_drop (l : List PartL) (k : Nat) (h : k < l.length) : partBytes (l.drop k) = l[k].bytes ++ partBytes (l.drop (k + 1)) := by
  rw [List.drop_eq_getElem_cons h]
  rfl

/-- A slice of one's own that is appended to. -/
def SW (w cur : World) (v : Value) (M : List UInt8) : Prop := ∃ o, BSl cur v o M ∧ (∀ k, o = some k → w.heap.size ≤ k) ∧ cur.ownsRow 0 5 1 v M.length (bvs M) ∧ Ch [] w cur
theorem SW.sl {w cur : World} {v : Value} {M : List UInt8} (h : SW w cur v M) : ∃ o, BSl cur v o M ∧ ∀ w' v' M', SlSt cur o M' w' v' → SW w w' v' M' := by
  obtain ⟨o, h1, h2, h3, h4⟩ := h
  refine ⟨o, h1, ?_⟩
  rintro w' v' M' ⟨o', q1, q2, q3, q4⟩
  have hs := h4.size
  refine ⟨o', .inl ⟨q1, q2⟩, ?_, q1, h4.trans q4 ?_⟩
  · intro k hk
    rcases q3 k hk with e | e
    · exact h2 k e
    · omega
  · intro x hx
    exact .inr (h2 x (by simpa using hx))

set_option maxRecDepth 100000 in
set_option maxHeartbeats 4000000 in
theorem code_back (A : Option Addr) (n c : Nat) (l : List PartL) (w : World) (hr : Rd 3 w A n c (partCells l)) (hok : ∀ p ∈ l, p.ok) :
    Calls Try.prog 7 #[.slice A n c] w fun e w' => e = .returned (.bool true) ∧ Ch [] w w' := by
  have hn : l.length = n := by have := hr.len; rw [partCells_length] at this; omega
  go_enter Try.func7, Try.ntmps7
  go_wp2_with fail
  refine (known2 _).mono ?_
  rintro e w0 ⟨rfl, hc0⟩
  have hr0 := hr.nil hc0
  go_wp2_with fail
  refine (light_any A n c l _ hr0).mono ?_
  rintro e w1 ⟨rfl, rfl⟩
  cases hL : lightB l
  · go_wp2_with fail
    go_ret
    exact ⟨rfl, hc0⟩
  · obtain ⟨h12, h100⟩ := lightB_iff hL
    clear hL
    go_wp2_with fail
    go_loopw [3, 4] (fun v i wr => ∃ k : Nat, k ≤ n ∧ i = .int .i64 k ∧ SW w wr v (partBytes (l.take k))) (fun _ i _ => n - (intOf i).toNat)
    case atStart => exact ⟨0, Nat.zero_le _, rfl, none, .inl ⟨World.ownsRow_nil _ _ _ _, rfl⟩, by simp, World.ownsRow_nil _ _ _ _, hc0⟩
    case round =>
      clear hc0 hr0
      obtain ⟨k, hk, rfl, hcw⟩ := hrel
      obtain ⟨wA, hwA⟩ : ∃ W, W = wr := ⟨_, rfl⟩
      subst hwA
      have hlen : (partBytes (l.take k)).length ≤ 2000 := by
        have := partBytes_len (l.take k) (fun p hp => ⟨hok p (List.mem_of_mem_take hp), h100 p (List.mem_of_mem_take hp)⟩)
        rw [List.length_take] at this
        omega
      have hch : Ch [] w wA := by obtain ⟨_, _, _, _, h⟩ := hcw; exact h
      have hrk := hr.nil hch
      by_cases hlt : k < n
      · have hk' : k < l.length := by omega
        obtain ⟨ab, ao, rfl, hx0, hx1, hx2⟩ := part_cells hrk k hk'
        have hpk := hok l[k] (List.getElem_mem hk')
        have ht := h100 l[k] (List.getElem_mem hk')
        have hsucc := partBytes_succ l k hk'
        have Hok := Lib.hid hok
        have H100 := Lib.hid h100
        have Hsucc := Lib.hid hsucc
        clear hok h100 hsucc
        generalize hp : l[k] = p at *
        obtain ⟨what, num, t⟩ := p
        obtain ⟨hw8, hn64⟩ := hpk
        simp only at hw8 hn64 ht hx0 hx1 hx2
        clear hp
        generalize hL : partBytes (l.take k) = L at *
        clear hL
        obtain ⟨o2, hbsl, hput⟩ := hcw.sl
        go_wp2_with fail
        refine (put_any _ o2 L ⟨what, num, t⟩ wA hbsl ⟨hw8, hn64⟩ (by simp only; omega)).mono ?_
        rintro e w2 ⟨v2, rfl, hst⟩
        have hcw2 := hput _ _ _ hst
        clear hput hst hbsl hcw
        go_wp2_with fail
        go_roundw
        case rel => exact ⟨k + 1, by omega, by go_num, by rw [Hsucc.out]; exact hcw2⟩
        case measure => simp [intOf]; omega
      · obtain rfl : n = k := by omega
        rw [List.take_of_length_le (by omega)] at hcw hlen
        clear hlt hk
        have Hok := Lib.hid hok
        have H100 := Lib.hid h100
        clear hok h100
        obtain ⟨o, _, _, hown, _⟩ := hcw
        obtain ⟨A1, c1, rfl⟩ := own_slice hown
        have hrd := own_rd hown
        have hs := hch.size
        generalize hL : partBytes l = L at *
        have HL := Lib.hid hL
        clear hL
        go_wp2_with fail
        refine (new_reader A1 _ c1 L _ hrd (by omega)).mono ?_
        rintro e w2 ⟨r, g, rfl, hrr, hrb, hrg, hc2⟩
        have hRS := RS.mk (w := w) hrr (hch.trans hc2 (by simp)) (by omega)
        clear hrr hrb hrg hc2 hch hrk hrd hown hs
        go_wp2_with fail
        go_loopw [6] (fun i wr => ∃ k : Nat, k ≤ n ∧ i = .int .i64 k ∧ RS w wr r g (some (partBytes (l.drop k)))) (fun i _ => n - (intOf i).toNat)
        case atStart => exact ⟨0, Nat.zero_le _, rfl, by rw [List.drop_zero, HL.out]; exact hRS⟩
        case round =>
          clear hRS
          obtain ⟨k, hk, rfl, hS⟩ := hrel
          obtain ⟨wB, hwB⟩ : ∃ W, W = wr := ⟨_, rfl⟩
          subst hwB
          by_cases hlt : k < n
          · have hk' : k < l.length := by omega
            obtain ⟨ab, ao, rfl, hx0, hx1, hx2⟩ := part_cells (hr.nil hS.ch) k hk'
            have hcell : ∀ W, Ch [] w W → W.cell? ⟨ab, ao + k * 3, none⟩ = some (.int .u8 (l[k].what : Int)) ∧ W.cell? ⟨ab, ao + k * 3 + 1, none⟩ = some (.int .u64 (l[k].n : Int)) ∧ W.cell? ⟨ab, ao + k * 3 + 2, none⟩ = some (.string l[k].t) := by
              intro W hW
              obtain ⟨ab', ao', e, h⟩ := part_cells (hr.nil hW) k hk'
              injection e with e
              injection e with e1 e2
              subst e1 e2
              exact h
            have hpk := Hok.out l[k] (List.getElem_mem hk')
            have ht := H100.out l[k] (List.getElem_mem hk')
            have hdrop := partBytes_drop l k hk'
            rw [hdrop] at hS
            generalize hp : l[k] = p at *
            obtain ⟨what, num, t⟩ := p
            obtain ⟨hw8, hn64⟩ := hpk
            simp only at hw8 hn64 ht hx0 hx1 hx2 hcell
            have Hcell := Lib.hid hcell
            clear hp hdrop hcell
            have hm : what % 4 = 0 ∨ what % 4 = 1 ∨ what % 4 = 2 ∨ what % 4 = 3 := by omega
            have hi1 := wrap64_bd (num : Int)
            have Hn := Lib.hid hn64
            have Hw := Lib.hid hw8
            have Hi1 := Lib.hid hi1
            clear hn64 hw8 hi1
            generalize hR : partBytes (l.drop (k + 1)) = R at *
            have HR := Lib.hid hR
            clear hR
            rcases hm with hm | hm | hm | hm
            · rw [bytes_num hm] at hS
              have e0 : ((what : Int) % 4 == 0) = true := by simp; omega
              clear hm
              have hq1 : binOp .eql 33 (.int .u64 (num : Int)) (.int .u64 (num : Int)) = pure (.bool true) := eql_int_yes _ _ _
              go_wp2_with fail
              have hS := hS.drew
              refine dr_begin (by kernel_rfl) ?_
              refine dr_more (fun W => W.cell? ⟨ab, ao + k * 3 + 1, none⟩ = some (.int .u64 (num : Int))) ?_
              have hT : True ∧ wB.drew.cell? ⟨ab, ao + k * 3 + 1, none⟩ = some (.int .u64 (num : Int)) := ⟨trivial, (Hcell.out _ hS.ch).2.1⟩
              refine dr_take 0 (some 51) (v := ?_) rfl rfl (by kernel_rfl) (by kernel_rfl) (by kernel_rfl) (fun _ _ _ h => h) rfl hT (fun W _ => ?_) ?_
              rotate_left
              · (go_simp; try with_reducible rfl)
              try simp only [Act.put, List.setIfInBounds_toArray, List.set_cons_zero, List.set_cons_succ]
              refine dr_take 2 (some 53) (v := ?_) rfl rfl (by kernel_rfl) (by kernel_rfl) (by kernel_rfl) (fun _ _ _ h => h) rfl hT (fun W _ => ?_) ?_
              rotate_left
              · (go_simp; try with_reducible rfl)
              try simp only [Act.put, List.setIfInBounds_toArray, List.set_cons_zero, List.set_cons_succ]
              refine dr_take 3 (some 54) (v := ?_) rfl rfl (by kernel_rfl) (by kernel_rfl) (by kernel_rfl) (fun _ _ _ h => h) rfl hT (fun W _ => ?_) ?_
              rotate_left
              · (go_simp; try with_reducible rfl)
              try simp only [Act.put, List.setIfInBounds_toArray, List.set_cons_zero, List.set_cons_succ]
              refine dr_take 4 (some 55) (v := ?_) rfl rfl (by kernel_rfl) (by kernel_rfl) (by kernel_rfl) (fun _ _ _ h => h) rfl hT (fun W _ => ?_) ?_
              rotate_left
              · (go_simp; try with_reducible rfl)
              try simp only [Act.put, List.setIfInBounds_toArray, List.set_cons_zero, List.set_cons_succ]
              refine dr_take 5 (some 56) (v := ?_) rfl rfl (by kernel_rfl) (by kernel_rfl) (by kernel_rfl) (fun _ _ _ h => h) rfl hT (fun W _ => ?_) ?_
              rotate_left
              · (go_simp; try with_reducible rfl)
              try simp only [Act.put, List.setIfInBounds_toArray, List.set_cons_zero, List.set_cons_succ]
              refine dr_take 6 (some 57) (v := ?_) rfl rfl (by kernel_rfl) (by kernel_rfl) (by kernel_rfl) (fun _ _ _ h => h) rfl hT (fun W hW => ?_) ?_
              rotate_left
              · (have h1 := hW.2; go_simp; try with_reducible rfl)
              try simp only [Act.put, List.setIfInBounds_toArray, List.set_cons_zero, List.set_cons_succ]
              refine dr_step 1 rfl (by kernel_rfl) rfl (fun K hK => ?_)
              go_simp
              refine (hS.num Hn.out).mono ?_
              rintro e v1 ⟨rfl, hS⟩
              have hT : True ∧ v1.cell? ⟨ab, ao + k * 3 + 1, none⟩ = some (.int .u64 (num : Int)) := ⟨trivial, (Hcell.out _ hS.ch).2.1⟩
              refine hK.out _ _ hT ?_
              clear hK K
              try simp only [Act.put, List.setIfInBounds_toArray, List.set_cons_zero, List.set_cons_succ]
              refine dr_take 7 (some 58) (v := ?_) rfl rfl (by kernel_rfl) (by kernel_rfl) (by kernel_rfl) (fun _ _ _ h => h) rfl hT (fun W _ => ?_) ?_
              rotate_left
              · (go_simp; try with_reducible rfl)
              try simp only [Act.put, List.setIfInBounds_toArray, List.set_cons_zero, List.set_cons_succ]
              refine dr_take 8 (some 7) (v := ?_) rfl rfl (by kernel_rfl) (by kernel_rfl) (by kernel_rfl) (fun _ _ _ h => h) rfl hT (fun W _ => ?_) ?_
              rotate_left
              · (go_simp; try with_reducible rfl)
              try simp only [Act.put, List.setIfInBounds_toArray, List.set_cons_zero, List.set_cons_succ]
              refine dr_done (by kernel_rfl) ?_
              try simp only [IntWalk.i64_left, tmod2, beq_self_eq_true]
              go_wp2_with fail
              go_roundw
              case rel => exact ⟨k + 1, by omega, by go_num, by rw [HR.out]; exact hS⟩
              case measure => simp [intOf]; omega
            · rw [bytes_int hm] at hS
              have e0 : ((what : Int) % 4 == 0) = false := by simp; omega
              have e1 : ((what : Int) % 4 == 1) = true := by simp; omega
              clear hm
              have hb : (wrap64 (num : Int) == wrap64 (num : Int)) = true := by simp
              have hq1 : binOp .eql 2 (.int .i64 (wrap64 (num : Int))) (.int .i64 (wrap64 (num : Int))) = pure (.bool true) := eql_int_yes _ _ _
              go_wp2_with fail
              have hS := hS.drew
              refine dr_begin (by kernel_rfl) ?_
              refine dr_more (fun W => W.cell? ⟨ab, ao + k * 3 + 1, none⟩ = some (.int .u64 (num : Int))) ?_
              have hT : True ∧ wB.drew.cell? ⟨ab, ao + k * 3 + 1, none⟩ = some (.int .u64 (num : Int)) := ⟨trivial, (Hcell.out _ hS.ch).2.1⟩
              refine dr_take 0 (some 61) (v := ?_) rfl rfl (by kernel_rfl) (by kernel_rfl) (by kernel_rfl) (fun _ _ _ h => h) rfl hT (fun W _ => ?_) ?_
              rotate_left
              · (go_simp; try with_reducible rfl)
              try simp only [Act.put, List.setIfInBounds_toArray, List.set_cons_zero, List.set_cons_succ]
              refine dr_take 2 (some 63) (v := ?_) rfl rfl (by kernel_rfl) (by kernel_rfl) (by kernel_rfl) (fun _ _ _ h => h) rfl hT (fun W _ => ?_) ?_
              rotate_left
              · (go_simp; try with_reducible rfl)
              try simp only [Act.put, List.setIfInBounds_toArray, List.set_cons_zero, List.set_cons_succ]
              refine dr_take 3 (some 64) (v := ?_) rfl rfl (by kernel_rfl) (by kernel_rfl) (by kernel_rfl) (fun _ _ _ h => h) rfl hT (fun W _ => ?_) ?_
              rotate_left
              · (go_simp; try with_reducible rfl)
              try simp only [Act.put, List.setIfInBounds_toArray, List.set_cons_zero, List.set_cons_succ]
              refine dr_take 4 (some 65) (v := ?_) rfl rfl (by kernel_rfl) (by kernel_rfl) (by kernel_rfl) (fun _ _ _ h => h) rfl hT (fun W _ => ?_) ?_
              rotate_left
              · (go_simp; try with_reducible rfl)
              try simp only [Act.put, List.setIfInBounds_toArray, List.set_cons_zero, List.set_cons_succ]
              refine dr_take 5 (some 66) (v := ?_) rfl rfl (by kernel_rfl) (by kernel_rfl) (by kernel_rfl) (fun _ _ _ h => h) rfl hT (fun W _ => ?_) ?_
              rotate_left
              · (go_simp; try with_reducible rfl)
              try simp only [Act.put, List.setIfInBounds_toArray, List.set_cons_zero, List.set_cons_succ]
              refine dr_take 6 (some 67) (v := ?_) rfl rfl (by kernel_rfl) (by kernel_rfl) (by kernel_rfl) (fun _ _ _ h => h) rfl hT (fun W hW => ?_) ?_
              rotate_left
              · (have h1 := hW.2; go_simp; try with_reducible rfl)
              try simp only [Act.put, List.setIfInBounds_toArray, List.set_cons_zero, List.set_cons_succ]
              refine dr_take 7 (some 68) (v := ?_) rfl rfl (by kernel_rfl) (by kernel_rfl) (by kernel_rfl) (fun _ _ _ h => h) rfl hT (fun W _ => ?_) ?_
              rotate_left
              · (go_simp; try with_reducible rfl)
              try simp only [Act.put, List.setIfInBounds_toArray, List.set_cons_zero, List.set_cons_succ]
              refine dr_step 1 rfl (by kernel_rfl) rfl (fun K hK => ?_)
              go_simp
              refine (hS.int Hi1.out.1 Hi1.out.2).mono ?_
              rintro e v1 ⟨rfl, hS⟩
              have hT : True ∧ v1.cell? ⟨ab, ao + k * 3 + 1, none⟩ = some (.int .u64 (num : Int)) := ⟨trivial, (Hcell.out _ hS.ch).2.1⟩
              refine hK.out _ _ hT ?_
              clear hK K
              try simp only [Act.put, List.setIfInBounds_toArray, List.set_cons_zero, List.set_cons_succ]
              refine dr_take 8 (some 69) (v := ?_) rfl rfl (by kernel_rfl) (by kernel_rfl) (by kernel_rfl) (fun _ _ _ h => h) rfl hT (fun W _ => ?_) ?_
              rotate_left
              · (go_simp; try with_reducible rfl)
              try simp only [Act.put, List.setIfInBounds_toArray, List.set_cons_zero, List.set_cons_succ]
              refine dr_take 9 (some 7) (v := ?_) rfl rfl (by kernel_rfl) (by kernel_rfl) (by kernel_rfl) (fun _ _ _ h => h) rfl hT (fun W _ => ?_) ?_
              rotate_left
              · (go_simp; try with_reducible rfl)
              try simp only [Act.put, List.setIfInBounds_toArray, List.set_cons_zero, List.set_cons_succ]
              refine dr_done (by kernel_rfl) ?_
              try simp only [IntWalk.i64_left, tmod2, beq_self_eq_true]
              go_wp2_with fail
              go_roundw
              case rel => exact ⟨k + 1, by omega, by go_num, by rw [HR.out]; exact hS⟩
              case measure => simp [intOf]; omega
            · rw [bytes_text hm] at hS
              have e0 : ((what : Int) % 4 == 0) = false := by simp; omega
              have e1 : ((what : Int) % 4 == 1) = false := by simp; omega
              have e2 : ((what : Int) % 4 == 2) = true := by simp; omega
              clear hm
              have hq1 : binOp .eql 9 (.string t) (.string t) = pure (.bool true) := eql_str_yes _ _
              go_wp2_with fail
              have hS := hS.drew
              refine dr_begin (by kernel_rfl) ?_
              refine dr_more (fun W => W.cell? ⟨ab, ao + k * 3 + 2, none⟩ = some (.string t)) ?_
              have hT : True ∧ wB.drew.cell? ⟨ab, ao + k * 3 + 2, none⟩ = some (.string t) := ⟨trivial, (Hcell.out _ hS.ch).2.2⟩
              refine dr_take 0 (some 72) (v := ?_) rfl rfl (by kernel_rfl) (by kernel_rfl) (by kernel_rfl) (fun _ _ _ h => h) rfl hT (fun W _ => ?_) ?_
              rotate_left
              · (go_simp; try with_reducible rfl)
              try simp only [Act.put, List.setIfInBounds_toArray, List.set_cons_zero, List.set_cons_succ]
              refine dr_take 2 (some 74) (v := ?_) rfl rfl (by kernel_rfl) (by kernel_rfl) (by kernel_rfl) (fun _ _ _ h => h) rfl hT (fun W _ => ?_) ?_
              rotate_left
              · (go_simp; try with_reducible rfl)
              try simp only [Act.put, List.setIfInBounds_toArray, List.set_cons_zero, List.set_cons_succ]
              refine dr_take 3 (some 75) (v := ?_) rfl rfl (by kernel_rfl) (by kernel_rfl) (by kernel_rfl) (fun _ _ _ h => h) rfl hT (fun W _ => ?_) ?_
              rotate_left
              · (go_simp; try with_reducible rfl)
              try simp only [Act.put, List.setIfInBounds_toArray, List.set_cons_zero, List.set_cons_succ]
              refine dr_take 4 (some 76) (v := ?_) rfl rfl (by kernel_rfl) (by kernel_rfl) (by kernel_rfl) (fun _ _ _ h => h) rfl hT (fun W _ => ?_) ?_
              rotate_left
              · (go_simp; try with_reducible rfl)
              try simp only [Act.put, List.setIfInBounds_toArray, List.set_cons_zero, List.set_cons_succ]
              refine dr_take 5 (some 77) (v := ?_) rfl rfl (by kernel_rfl) (by kernel_rfl) (by kernel_rfl) (fun _ _ _ h => h) rfl hT (fun W _ => ?_) ?_
              rotate_left
              · (go_simp; try with_reducible rfl)
              try simp only [Act.put, List.setIfInBounds_toArray, List.set_cons_zero, List.set_cons_succ]
              refine dr_take 6 (some 78) (v := ?_) rfl rfl (by kernel_rfl) (by kernel_rfl) (by kernel_rfl) (fun _ _ _ h => h) rfl hT (fun W hW => ?_) ?_
              rotate_left
              · (have h1 := hW.2; go_simp; try with_reducible rfl)
              try simp only [Act.put, List.setIfInBounds_toArray, List.set_cons_zero, List.set_cons_succ]
              refine dr_step 1 rfl (by kernel_rfl) rfl (fun K hK => ?_)
              go_simp
              refine (hS.text (by omega)).mono ?_
              rintro e v1 ⟨rfl, hS⟩
              have hT : True ∧ v1.cell? ⟨ab, ao + k * 3 + 2, none⟩ = some (.string t) := ⟨trivial, (Hcell.out _ hS.ch).2.2⟩
              refine hK.out _ _ hT ?_
              clear hK K
              try simp only [Act.put, List.setIfInBounds_toArray, List.set_cons_zero, List.set_cons_succ]
              refine dr_take 7 (some 79) (v := ?_) rfl rfl (by kernel_rfl) (by kernel_rfl) (by kernel_rfl) (fun _ _ _ h => h) rfl hT (fun W _ => ?_) ?_
              rotate_left
              · (go_simp; try with_reducible rfl)
              try simp only [Act.put, List.setIfInBounds_toArray, List.set_cons_zero, List.set_cons_succ]
              refine dr_take 8 (some 7) (v := ?_) rfl rfl (by kernel_rfl) (by kernel_rfl) (by kernel_rfl) (fun _ _ _ h => h) rfl hT (fun W _ => ?_) ?_
              rotate_left
              · (go_simp; try with_reducible rfl)
              try simp only [Act.put, List.setIfInBounds_toArray, List.set_cons_zero, List.set_cons_succ]
              refine dr_done (by kernel_rfl) ?_
              try simp only [IntWalk.i64_left, tmod2, beq_self_eq_true]
              go_wp2_with fail
              go_roundw
              case rel => exact ⟨k + 1, by omega, by go_num, by rw [HR.out]; exact hS⟩
              case measure => simp [intOf]; omega
            · rw [bytes_bool hm] at hS
              have e0 : ((what : Int) % 4 == 0) = false := by simp; omega
              have e1 : ((what : Int) % 4 == 1) = false := by simp; omega
              have e2 : ((what : Int) % 4 == 2) = false := by simp; omega
              clear hm
              have hb : (((num : Int) % 2 == 1) == ((num : Int) % 2 == 1)) = true := by simp
              go_wp2_with fail
              have hS := hS.drew
              refine dr_begin (by kernel_rfl) ?_
              refine dr_more (fun W => W.cell? ⟨ab, ao + k * 3 + 1, none⟩ = some (.int .u64 (num : Int))) ?_
              have hT : True ∧ wB.drew.cell? ⟨ab, ao + k * 3 + 1, none⟩ = some (.int .u64 (num : Int)) := ⟨trivial, (Hcell.out _ hS.ch).2.1⟩
              refine dr_take 0 (some 39) (v := ?_) rfl rfl (by kernel_rfl) (by kernel_rfl) (by kernel_rfl) (fun _ _ _ h => h) rfl hT (fun W _ => ?_) ?_
              rotate_left
              · (go_simp; try with_reducible rfl)
              try simp only [Act.put, List.setIfInBounds_toArray, List.set_cons_zero, List.set_cons_succ]
              refine dr_take 2 (some 41) (v := ?_) rfl rfl (by kernel_rfl) (by kernel_rfl) (by kernel_rfl) (fun _ _ _ h => h) rfl hT (fun W _ => ?_) ?_
              rotate_left
              · (go_simp; try with_reducible rfl)
              try simp only [Act.put, List.setIfInBounds_toArray, List.set_cons_zero, List.set_cons_succ]
              refine dr_take 3 (some 42) (v := ?_) rfl rfl (by kernel_rfl) (by kernel_rfl) (by kernel_rfl) (fun _ _ _ h => h) rfl hT (fun W _ => ?_) ?_
              rotate_left
              · (go_simp; try with_reducible rfl)
              try simp only [Act.put, List.setIfInBounds_toArray, List.set_cons_zero, List.set_cons_succ]
              refine dr_take 4 (some 43) (v := ?_) rfl rfl (by kernel_rfl) (by kernel_rfl) (by kernel_rfl) (fun _ _ _ h => h) rfl hT (fun W _ => ?_) ?_
              rotate_left
              · (go_simp; try with_reducible rfl)
              try simp only [Act.put, List.setIfInBounds_toArray, List.set_cons_zero, List.set_cons_succ]
              refine dr_take 5 (some 44) (v := ?_) rfl rfl (by kernel_rfl) (by kernel_rfl) (by kernel_rfl) (fun _ _ _ h => h) rfl hT (fun W _ => ?_) ?_
              rotate_left
              · (go_simp; try with_reducible rfl)
              try simp only [Act.put, List.setIfInBounds_toArray, List.set_cons_zero, List.set_cons_succ]
              refine dr_take 6 (some 45) (v := ?_) rfl rfl (by kernel_rfl) (by kernel_rfl) (by kernel_rfl) (fun _ _ _ h => h) rfl hT (fun W hW => ?_) ?_
              rotate_left
              · (have h1 := hW.2; go_simp; try with_reducible rfl)
              try simp only [Act.put, List.setIfInBounds_toArray, List.set_cons_zero, List.set_cons_succ]
              refine dr_take 7 (some 46) (v := ?_) rfl rfl (by kernel_rfl) (by kernel_rfl) (by kernel_rfl) (fun _ _ _ h => h) rfl hT (fun W _ => ?_) ?_
              rotate_left
              · (go_simp; try with_reducible rfl)
              try simp only [Act.put, List.setIfInBounds_toArray, List.set_cons_zero, List.set_cons_succ]
              refine dr_take 8 (some 47) (v := ?_) rfl rfl (by kernel_rfl) (by kernel_rfl) (by kernel_rfl) (fun _ _ _ h => h) rfl hT (fun W _ => ?_) ?_
              rotate_left
              · (go_simp; try with_reducible rfl)
              try simp only [Act.put, List.setIfInBounds_toArray, List.set_cons_zero, List.set_cons_succ]
              refine dr_step 1 rfl (by kernel_rfl) rfl (fun K hK => ?_)
              go_simp
              refine hS.bool.mono ?_
              rintro e v1 ⟨rfl, hS⟩
              have hT : True ∧ v1.cell? ⟨ab, ao + k * 3 + 1, none⟩ = some (.int .u64 (num : Int)) := ⟨trivial, (Hcell.out _ hS.ch).2.1⟩
              refine hK.out _ _ hT ?_
              clear hK K
              try simp only [Act.put, List.setIfInBounds_toArray, List.set_cons_zero, List.set_cons_succ]
              refine dr_take 9 (some 48) (v := ?_) rfl rfl (by kernel_rfl) (by kernel_rfl) (by kernel_rfl) (fun _ _ _ h => h) rfl hT (fun W _ => ?_) ?_
              rotate_left
              · (go_simp; try with_reducible rfl)
              try simp only [Act.put, List.setIfInBounds_toArray, List.set_cons_zero, List.set_cons_succ]
              refine dr_take 10 (some 7) (v := ?_) rfl rfl (by kernel_rfl) (by kernel_rfl) (by kernel_rfl) (fun _ _ _ h => h) rfl hT (fun W _ => ?_) ?_
              rotate_left
              · (go_simp; try with_reducible rfl)
              try simp only [Act.put, List.setIfInBounds_toArray, List.set_cons_zero, List.set_cons_succ]
              refine dr_done (by kernel_rfl) ?_
              try simp only [IntWalk.i64_left, tmod2, beq_self_eq_true]
              go_wp2_with fail
              go_roundw
              case rel => exact ⟨k + 1, by omega, by go_num, by rw [HR.out]; exact hS⟩
              case measure => simp [intOf]; omega
          · obtain rfl : n = k := by omega
            rw [List.drop_of_length_le (by omega)] at hS
            clear hlt hk
            go_wp2_with fail
            refine hS.done.mono ?_
            rintro e w3 ⟨rfl, rfl⟩
            have e8 : doneV (some (partBytes [])) = 0 := rfl
            rw [e8]
            clear e8
            go_wp2_with fail
            go_ret
            exact ⟨rfl, hS.ch⟩

end Go.Proofs.Ytbkncfedahifkaa
