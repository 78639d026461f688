/-
  CodeWrites: any parts are written as the document's bytes, one by one or together.
-/
import Derived.Test.YtbkncfedahifkaaWB
set_option linter.unusedVariables false
set_option linter.unusedSimpArgs false
namespace Go.Proofs.Ytbkncfedahifkaa
open Go.RowKit

/-- All the parts' bytes. -/
def partBytes (l : List PartL) : List UInt8 := l.flatMap PartL.bytes
theorem partBytes_succ (l : List PartL) (k : Nat) (h : k < l.length) : partBytes (l.take (k + 1)) = partBytes (l.take k) ++ l[k].bytes := by
  rw [List.take_succ_eq_append_getElem h, partBytes, List.flatMap_append]
  simp [partBytes]
theorem partBytes_len (l : List PartL) (h : ∀ p ∈ l, p.ok ∧ p.t.size ≤ 100) : (partBytes l).length ≤ 110 * l.length := by
  induction l with
  | nil => simp [partBytes]
  | cons a l ih =>
    have h1 := PartL.bytes_len a (h a (by simp)).1 (by have := (h a (by simp)).2; omega)
    have h2 := ih (fun p hp => h p (by simp [hp]))
    have h3 := (h a (by simp)).2
    simp only [partBytes, List.flatMap_cons, List.length_append, List.length_cons] at h2 ⊢
    omega
theorem partTexts_len (l : List PartL) (h : ∀ p ∈ l, p.t.size ≤ 100) : bulk (byt (l.map (·.t))) ≤ 100 * l.length := by
  induction l with
  | nil => simp [byt, bulk]
  | cons a l ih =>
    have h2 := ih (fun p hp => h p (by simp [hp]))
    have h3 := h a (by simp)
    simp only [byt, bulk, List.map_cons, List.sum_cons, List.length_cons] at h2 ⊢
    have e : a.t.data.toList.length = a.t.size := rfl
    omega
theorem partTexts_succ (l : List PartL) (k : Nat) (h : k < l.length) : encTs (byt ((l.take (k + 1)).map (·.t))) = encTs (byt ((l.take k).map (·.t))) ++ encT l[k].t.data.toList := by
  rw [List.take_succ_eq_append_getElem h, List.map_append, byt, List.map_append, encTs, List.flatMap_append]
  simp [encTs, byt]
theorem bytes_num {what n : Nat} {t : ByteArray} (hm : what % 4 = 0) : (PartL.mk what n t).bytes = encN n := by simp [PartL.bytes, hm]
theorem bytes_int {what n : Nat} {t : ByteArray} (hm : what % 4 = 1) : (PartL.mk what n t).bytes = encN (zz (wrap64 (n : Int))) := by simp [PartL.bytes, hm]
theorem bytes_text {what n : Nat} {t : ByteArray} (hm : what % 4 = 2) : (PartL.mk what n t).bytes = encT t.data.toList := by simp [PartL.bytes, hm]
theorem bytes_bool {what n : Nat} {t : ByteArray} (hm : what % 4 = 3) : (PartL.mk what n t).bytes = encB ((n : Int) % 2 == 1) := by
  have e : decide (n % 2 = 1) = ((n : Int) % 2 == 1) := by rw [Bool.eq_iff_iff]; simp; omega
  simp [PartL.bytes, hm, e]
theorem encB_encs (b : Bool) : encB b = encs ([b].map bnum) := by rw [encB_num]; cases b <;> simp [encs, bnum]
theorem lightB_iff {l : List PartL} (h : lightB l = true) : l.length ≤ 12 ∧ ∀ p ∈ l, p.t.size ≤ 100 := by
  simpa [lightB] using h

/-- The first loop's state. -/
def W1 (w : World) (b : Nat) (l : List PartL) (k : Nat) (v : Value) (wr : World) : Prop := CW w wr b v (partBytes (l.take k)) (partBytes (l.take k))
/-- The second loop's. -/
def W2 (w : World) (b : Nat) (l : List PartL) (k : Nat) (v : Value) (wr : World) : Prop := CW w wr b v (encTs (byt (l.map (·.t)))) (encTs (byt ((l.take k).map (·.t))))

set_option maxRecDepth 100000 in
set_option maxHeartbeats 1000000 in
theorem code_writes (A : Option Addr) (n c : Nat) (l : List PartL) (w : World) (hr : Rd 3 w A n c (partCells l)) (hok : ∀ p ∈ l, p.ok) :
    Calls Try.prog 4 #[.slice A n c] w fun e w' => e = .returned (.bool true) ∧ Ch [] w w' := by
  have hn : l.length = n := by have := hr.len; rw [partCells_length] at this; omega
  go_enter Try.func4, Try.ntmps4
  go_wp2_with fail
  refine (known2 _).mono ?_
  rintro e w0 ⟨rfl, hc0⟩
  have hr0 := hr.nil hc0
  go_wp2_with fail
  refine (light_any A n c l _ hr0).mono ?_
  rintro e w1 ⟨rfl, rfl⟩
  cases hL : lightB l
  · go_wp2_with fail
    go_ret
    exact ⟨rfl, hc0⟩
  · obtain ⟨h12, h100⟩ := lightB_iff hL
    clear hL
    go_wp2_with fail
    refine (new_wr _).mono ?_
    rintro e w1 ⟨b, rfl, hw1, hb1, hc1⟩
    have hs0 := hc0.size
    have hcw1 := hc0.trans hc1 (by simp)
    have hcw := CW.start hw1 hcw1 (by omega)
    clear hw1 hb1 hc1 hcw1 hs0 hr0 hc0
    go_wp2_with fail
    go_loopw [4, 5] (fun v i wr => ∃ k : Nat, k ≤ n ∧ i = .int .i64 k ∧ W1 w b l k v wr) (fun _ i _ => n - (intOf i).toNat)
    case atStart => exact ⟨0, Nat.zero_le _, rfl, by simpa [W1, partBytes] using hcw⟩
    case round =>
      clear hcw
      obtain ⟨wA, hwA⟩ : ∃ W, W = wr := ⟨_, rfl⟩
      subst hwA
      obtain ⟨k, hk, rfl, hcw⟩ := hrel
      unfold W1 at hcw
      have hlen : (partBytes (l.take k)).length ≤ 2000 := by
        have := partBytes_len (l.take k) (fun p hp => ⟨hok p (List.mem_of_mem_take hp), h100 p (List.mem_of_mem_take hp)⟩)
        rw [List.length_take] at this
        omega
      have hrk := hr.nil hcw.ch
      by_cases hlt : k < n
      · have hk' : k < l.length := by omega
        obtain ⟨ab, ao, rfl, hx0, hx1, hx2⟩ := part_cells hrk k hk'
        have hpk := hok l[k] (List.getElem_mem hk')
        have ht := h100 l[k] (List.getElem_mem hk')
        have hsucc := partBytes_succ l k hk'
        have Hok := Lib.hid hok
        have H100 := Lib.hid h100
        have Hsucc := Lib.hid hsucc
        clear hok h100 hsucc
        generalize hp : l[k] = p at *
        obtain ⟨what, num, t⟩ := p
        obtain ⟨hw8, hn64⟩ := hpk
        simp only at hw8 hn64 ht hx0 hx1 hx2
        have Hp := Lib.hid hp
        clear hp
        generalize hL : partBytes (l.take k) = L at *
        have HL := Lib.hid hL
        clear hL
        obtain ⟨o2, hbsl, hput⟩ := hcw.bsl
        go_wp2_with fail
        refine (put_any _ o2 L ⟨what, num, t⟩ wA hbsl ⟨hw8, hn64⟩ (by simp only; omega)).mono ?_
        rintro e w2 ⟨v2, rfl, hst⟩
        have hcw2 := hput _ _ _ hst
        clear hput hst hbsl hcw
        have hr2 := hr.nil hcw2.ch
        obtain ⟨ab', ao', e', hx0, hx1, hx2⟩ := part_cells hr2 k hk'
        injection e' with e'
        injection e' with e1 e2
        subst e1
        subst e2
        rw [Hp.out] at hx0 hx1 hx2
        simp only at hx0 hx1 hx2
        clear hrk hr2
        obtain ⟨o, hwr, hwst⟩ := hcw2.wst
        have hm : what % 4 = 0 ∨ what % 4 = 1 ∨ what % 4 = 2 ∨ what % 4 = 3 := by omega
        have hi1 := wrap64_bd (num : Int)
        have Hn := Lib.hid hn64
        have Hw := Lib.hid hw8
        have Hi1 := Lib.hid hi1
        clear hn64 hw8 hi1
        rcases hm with hm | hm | hm | hm
        · have Hb := Lib.hid (bytes_num (n := num) (t := t) hm)
          have e0 : ((what : Int) % 4 == 0) = true := by simp; omega
          clear hm
          go_wp2_with fail
          refine (wnum b o L _ 1 1 [num] _ (hwr.alloc _) (rd_one w2 _ 33) (by simpa using Hn.out) (by omega) hwr.fresh).mono ?_
          rintro e w3 ⟨rfl, hst⟩
          have hcw3 := hwst _ _ _ ((Ch.refl _ _).alloc _) hst
          rw [encs_one, ← Hb.out] at hcw3
          clear hst hwst hwr
          go_wp2_with fail
          go_roundw
          case rel => exact ⟨k + 1, by omega, by go_num, by rw [W1, Hsucc.out]; exact hcw3⟩
          case measure => simp [intOf]; omega
        · have Hb := Lib.hid (bytes_int (n := num) (t := t) hm)
          have e0 : ((what : Int) % 4 == 0) = false := by simp; omega
          have e1 : ((what : Int) % 4 == 1) = true := by simp; omega
          clear hm
          go_wp2_with fail
          refine (wint b o L _ 1 1 [wrap64 (num : Int)] _ (hwr.alloc _) (rd_one w2 _ 2) (by simpa using Hi1.out) (by omega) hwr.fresh).mono ?_
          rintro e w3 ⟨rfl, hst⟩
          have hcw3 := hwst _ _ _ ((Ch.refl _ _).alloc _) hst
          rw [List.map_cons, List.map_nil, encs_one, ← Hb.out] at hcw3
          clear hst hwst hwr
          go_wp2_with fail
          go_roundw
          case rel => exact ⟨k + 1, by omega, by go_num, by rw [W1, Hsucc.out]; exact hcw3⟩
          case measure => simp [intOf]; omega
        · have Hb := Lib.hid (bytes_text (n := num) (t := t) hm)
          have e0 : ((what : Int) % 4 == 0) = false := by simp; omega
          have e1 : ((what : Int) % 4 == 1) = false := by simp; omega
          have e2 : ((what : Int) % 4 == 2) = true := by simp; omega
          clear hm
          have hbk : bulk (byt [t]) = t.size := by simp [bulk, byt]
          have Hbk := Lib.hid hbk
          clear hbk
          go_wp2_with fail
          refine (wtext b o L _ 1 1 [t] _ (hwr.alloc _) (rd_one w2 _ 9) (by rw [Hbk.out]; omega) hwr.fresh).mono ?_
          rintro e w3 ⟨rfl, hst⟩
          have hcw3 := hwst _ _ _ ((Ch.refl _ _).alloc _) hst
          have et : encTs (byt [t]) = encT t.data.toList := by simp [encTs, byt]
          rw [et, ← Hb.out] at hcw3
          clear hst hwst hwr et
          go_wp2_with fail
          go_roundw
          case rel => exact ⟨k + 1, by omega, by go_num, by rw [W1, Hsucc.out]; exact hcw3⟩
          case measure => simp [intOf]; omega
        · have Hb := Lib.hid (bytes_bool (n := num) (t := t) hm)
          have e0 : ((what : Int) % 4 == 0) = false := by simp; omega
          have e1 : ((what : Int) % 4 == 1) = false := by simp; omega
          have e2 : ((what : Int) % 4 == 2) = false := by simp; omega
          clear hm
          go_wp2_with fail
          refine (wbool b o L _ 1 1 [(num : Int) % 2 == 1] _ (hwr.alloc _) (rd_one w2 _ 4) (by omega) hwr.fresh).mono ?_
          rintro e w3 ⟨rfl, hst⟩
          have hcw3 := hwst _ _ _ ((Ch.refl _ _).alloc _) hst
          rw [← encB_encs, ← Hb.out] at hcw3
          clear hst hwst hwr
          go_wp2_with fail
          go_roundw
          case rel => exact ⟨k + 1, by omega, by go_num, by rw [W1, Hsucc.out]; exact hcw3⟩
          case measure => simp [intOf]; omega
      · obtain rfl : n = k := by omega
        rw [List.take_of_length_le (by omega)] at hcw hlen
        clear hlt hk
        have hbk := partTexts_len l h100
        generalize hL : partBytes l = L at *
        have HL := Lib.hid hL
        clear hL
        have Hok := Lib.hid hok
        have H100 := Lib.hid h100
        clear hok h100
        go_wp2_with fail
        refine (new_wr _).mono ?_
        rintro e w2 ⟨b2, rfl, hw2, hb2, hc2⟩
        have hcwB := CW.start hw2 hc2 hb2
        have hb2l := hw2.lt
        have hr2 := hrk.nil hc2
        have hcw2 := hcw.nil hc2
        clear hw2 hc2 hb2
        go_wp2_with fail
        refine (l2_any A _ c l _ hr2 (by omega)).mono ?_
        rintro e w3 ⟨v3, rfl, hown3, hc3⟩
        obtain ⟨A3, c3, rfl⟩ := own_slice hown3
        obtain ⟨o, hwr, hwst⟩ := hcwB.wst
        have hol := hwr.olt
        have hof : ∀ a, A3 = some a → a.block ≠ b2 ∧ o ≠ some a.block := by
          rintro a rfl
          have h1 := own_ge hown3 a.block rfl
          refine ⟨by omega, fun e => ?_⟩
          have := hol _ e
          omega
        have hwr3 := hwr.keep hc3 (by simp) (by simp)
        have hr3 := hr2.nil hc3
        have hcw3 := hcw2.nil hc3
        have hrd3 := own_rd hown3
        clear hwr hol hown3 hcwB hr2 hcw2
        go_wp2_with fail
        refine (wtext b2 o [] A3 n c3 (l.map (·.t)) w3 hwr3 hrd3 (by simp only [List.length_nil]; omega) hof).mono ?_
        rintro e w4 ⟨rfl, hst⟩
        have hcw4 := hwst _ _ _ hc3 hst
        rw [List.nil_append] at hcw4
        clear hwst hst hwr3 hrd3 hof hc3 hcw3
        go_wp2_with fail
        go_loopw [7, 8] (fun v i wr => ∃ k : Nat, k ≤ n ∧ i = .int .i64 k ∧ W2 wA b2 l k v wr) (fun _ i _ => n - (intOf i).toNat)
        case atStart => exact ⟨0, Nat.zero_le _, rfl, by simpa [W2, encTs, byt] using hcw4⟩
        case round =>
          clear hcw4 hr3
          obtain ⟨wB, hwB⟩ : ∃ W, W = wr := ⟨_, rfl⟩
          subst hwB
          obtain ⟨k, hk, rfl, hcw4⟩ := hrel
          unfold W2 at hcw4
          have hlen2 : (encTs (byt (l.map (·.t)))).length ≤ 2000 := by
            have := encTs_len (byt (l.map (·.t))) (fun x hx => by
              simp only [byt, List.map_map, List.mem_map] at hx
              obtain ⟨p, hp, rfl⟩ := hx
              have := H100.out p hp
              show p.t.size < _
              omega)
            have e : (byt (l.map (·.t))).length = l.length := by simp [byt]
            omega
          have hlen3 : (encTs (byt ((l.take k).map (·.t)))).length ≤ 2000 := by
            have h1 := partTexts_len (l.take k) (fun p hp => H100.out p (List.mem_of_mem_take hp))
            have := encTs_len (byt ((l.take k).map (·.t))) (fun x hx => by
              simp only [byt, List.map_map, List.mem_map] at hx
              obtain ⟨p, hp, rfl⟩ := hx
              have := H100.out p (List.mem_of_mem_take hp)
              show p.t.size < _
              omega)
            have e : (byt ((l.take k).map (·.t))).length = (l.take k).length := by simp [byt]
            rw [List.length_take] at e h1
            omega
          have hrk4 := hrk.nil hcw4.ch
          by_cases hlt : k < n
          · have hk' : k < l.length := by omega
            obtain ⟨ab, ao, rfl, -, -, hx2⟩ := part_cells hrk4 k hk'
            have ht := H100.out l[k] (List.getElem_mem hk')
            have hsucc := partTexts_succ l k hk'
            have Hsucc := Lib.hid hsucc
            clear hsucc
            generalize hp : l[k].t = t at *
            have Hp := Lib.hid hp
            clear hp hrk4
            obtain ⟨o2, hbsl, hput⟩ := hcw4.bsl
            go_wp2_with fail
            refine (reftext _ o2 _ t wB hbsl (by omega)).mono ?_
            rintro e w5 ⟨v2, rfl, hst⟩
            have hcw5 := hput _ _ _ hst
            clear hput hst hbsl hcw4
            go_wp2_with fail
            go_roundw
            case rel => exact ⟨k + 1, by omega, by go_num, by rw [W2, Hsucc.out]; exact hcw5⟩
            case measure => simp [intOf]; omega
          · obtain rfl : n = k := by omega
            rw [List.take_of_length_le (by omega)] at hcw4 hlen3
            clear hlt hk hlen3 hrk4 hbk
            generalize hTB : encTs (byt (l.map (·.t))) = TB at *
            clear hTB
            go_wp2_with fail
            obtain ⟨o1, A1, c1, rfl, hw1, hr1⟩ := (hcw.nil hcw4.ch).fin
            obtain ⟨o2, A2, c2, rfl, hw2, hr2⟩ := hcw4.fin
            have hS := WB.mk (w := w) hw1 hw2 (hcw.ch.trans hcw4.ch (by simp)) (H := [(A1, L.length, c1, L), (A2, TB.length, c2, TB)]) (by
              intro x hx
              simp only [List.mem_cons, List.not_mem_nil, or_false] at hx
              rcases hx with rfl | rfl
              · exact hr1
              · exact hr2)
            have hS := hS.drew
            clear hw1 hw2 hr1 hr2 hcw hcw4
            have hq1 : binOp .eql 9 (.string (str L)) (.string (str L)) = pure (.bool true) := eql_str_yes _ _
            have hq2 : binOp .eql 9 (.string (str TB)) (.string (str TB)) = pure (.bool true) := eql_str_yes _ _
            refine dr_begin (by kernel_rfl) ?_
            refine dr_more (fun W => (convert 28 9 (.slice A1 (L).length c1)).run Try.prog W = .ok (.string (str (L))) W) ?_
            refine dr_more (fun W => (convert 28 9 (.slice A2 (TB).length c2)).run Try.prog W = .ok (.string (str (TB))) W) ?_
            have hT : ((True ∧ (convert 28 9 (.slice A1 (L).length c1)).run Try.prog _ = .ok (.string (str (L))) _) ∧ (convert 28 9 (.slice A2 (TB).length c2)).run Try.prog _ = .ok (.string (str (TB))) _) := ⟨⟨trivial, hS.conv (A1, _, c1, L) (by simp)⟩, hS.conv (A2, _, c2, TB) (by simp)⟩
            refine dr_take 0 (some 92) (v := ?_) rfl rfl (by kernel_rfl) (by kernel_rfl) (by kernel_rfl) (fun _ _ _ h => h) rfl hT (fun W _ => ?_) ?_
            rotate_left
            · (go_simp; try with_reducible rfl)
            try simp only [Act.put, List.setIfInBounds_toArray, List.set_cons_zero, List.set_cons_succ]
            refine dr_take 3 (some 95) (v := ?_) rfl rfl (by kernel_rfl) (by kernel_rfl) (by kernel_rfl) (fun _ _ _ h => h) rfl hT (fun W _ => ?_) ?_
            rotate_left
            · (go_simp; try with_reducible rfl)
            try simp only [Act.put, List.setIfInBounds_toArray, List.set_cons_zero, List.set_cons_succ]
            refine dr_take 4 (some 96) (v := ?_) rfl rfl (by kernel_rfl) (by kernel_rfl) (by kernel_rfl) (fun _ _ _ h => h) rfl hT (fun W hW => ?_) ?_
            rotate_left
            · (have h1 := hW; simp only [true_and] at h1; go_simp; try with_reducible rfl)
            try simp only [Act.put, List.setIfInBounds_toArray, List.set_cons_zero, List.set_cons_succ]
            refine dr_step 1 rfl (by kernel_rfl) rfl (fun K hK => ?_)
            go_simp
            refine (hS.bytesP (by omega)).mono ?_
            rintro e v1 ⟨A5, c5, rfl, hS⟩
            have hT : ((True ∧ (convert 28 9 (.slice A1 (L).length c1)).run Try.prog v1 = .ok (.string (str (L))) v1) ∧ (convert 28 9 (.slice A2 (TB).length c2)).run Try.prog v1 = .ok (.string (str (TB))) v1) := ⟨⟨trivial, hS.conv (A1, _, c1, L) (by simp)⟩, hS.conv (A2, _, c2, TB) (by simp)⟩
            refine hK.out _ _ hT ?_
            clear hK K
            try simp only [Act.put, List.setIfInBounds_toArray, List.set_cons_zero, List.set_cons_succ]
            refine dr_more (fun W => (convert 28 9 (.slice A5 (L).length c5)).run Try.prog W = .ok (.string (str (L))) W) ?_
            have hT : (((True ∧ (convert 28 9 (.slice A1 (L).length c1)).run Try.prog v1 = .ok (.string (str (L))) v1) ∧ (convert 28 9 (.slice A2 (TB).length c2)).run Try.prog v1 = .ok (.string (str (TB))) v1) ∧ (convert 28 9 (.slice A5 (L).length c5)).run Try.prog v1 = .ok (.string (str (L))) v1) := ⟨⟨⟨trivial, hS.conv (A1, _, c1, L) (by simp)⟩, hS.conv (A2, _, c2, TB) (by simp)⟩, hS.conv (A5, _, c5, L) (by simp)⟩
            refine dr_take 2 (some 94) (v := ?_) rfl rfl (by kernel_rfl) (by kernel_rfl) (by kernel_rfl) (fun _ _ _ h => h) rfl hT (fun W hW => ?_) ?_
            rotate_left
            · (have h1 := hW; simp only [true_and] at h1; go_simp; try with_reducible rfl)
            try simp only [Act.put, List.setIfInBounds_toArray, List.set_cons_zero, List.set_cons_succ]
            refine dr_take 5 (some 97) (v := ?_) rfl rfl (by kernel_rfl) (by kernel_rfl) (by kernel_rfl) (fun _ _ _ h => h) rfl hT (fun W _ => ?_) ?_
            rotate_left
            · (go_simp; try with_reducible rfl)
            try simp only [Act.put, List.setIfInBounds_toArray, List.set_cons_zero, List.set_cons_succ]
            refine dr_take 6 (some 98) (v := ?_) rfl rfl (by kernel_rfl) (by kernel_rfl) (by kernel_rfl) (fun _ _ _ h => h) rfl hT (fun W _ => ?_) ?_
            rotate_left
            · (go_simp; try with_reducible rfl)
            try simp only [Act.put, List.setIfInBounds_toArray, List.set_cons_zero, List.set_cons_succ]
            refine dr_take 7 (some 99) (v := ?_) rfl rfl (by kernel_rfl) (by kernel_rfl) (by kernel_rfl) (fun _ _ _ h => h) rfl hT (fun W _ => ?_) ?_
            rotate_left
            · (go_simp; try with_reducible rfl)
            try simp only [Act.put, List.setIfInBounds_toArray, List.set_cons_zero, List.set_cons_succ]
            refine dr_take 10 (some 102) (v := ?_) rfl rfl (by kernel_rfl) (by kernel_rfl) (by kernel_rfl) (fun _ _ _ h => h) rfl hT (fun W _ => ?_) ?_
            rotate_left
            · (go_simp; try with_reducible rfl)
            try simp only [Act.put, List.setIfInBounds_toArray, List.set_cons_zero, List.set_cons_succ]
            refine dr_take 11 (some 103) (v := ?_) rfl rfl (by kernel_rfl) (by kernel_rfl) (by kernel_rfl) (fun _ _ _ h => h) rfl hT (fun W hW => ?_) ?_
            rotate_left
            · (have h1 := hW; simp only [true_and] at h1; go_simp; try with_reducible rfl)
            try simp only [Act.put, List.setIfInBounds_toArray, List.set_cons_zero, List.set_cons_succ]
            refine dr_step 8 rfl (by kernel_rfl) rfl (fun K hK => ?_)
            go_simp
            refine (hS.bytesQ (by omega)).mono ?_
            rintro e v2 ⟨A6, c6, rfl, hS⟩
            have hT : (((True ∧ (convert 28 9 (.slice A1 (L).length c1)).run Try.prog v2 = .ok (.string (str (L))) v2) ∧ (convert 28 9 (.slice A2 (TB).length c2)).run Try.prog v2 = .ok (.string (str (TB))) v2) ∧ (convert 28 9 (.slice A5 (L).length c5)).run Try.prog v2 = .ok (.string (str (L))) v2) := ⟨⟨⟨trivial, hS.conv (A1, _, c1, L) (by simp)⟩, hS.conv (A2, _, c2, TB) (by simp)⟩, hS.conv (A5, _, c5, L) (by simp)⟩
            refine hK.out _ _ hT ?_
            clear hK K
            try simp only [Act.put, List.setIfInBounds_toArray, List.set_cons_zero, List.set_cons_succ]
            refine dr_more (fun W => (convert 28 9 (.slice A6 (TB).length c6)).run Try.prog W = .ok (.string (str (TB))) W) ?_
            have hT : ((((True ∧ (convert 28 9 (.slice A1 (L).length c1)).run Try.prog v2 = .ok (.string (str (L))) v2) ∧ (convert 28 9 (.slice A2 (TB).length c2)).run Try.prog v2 = .ok (.string (str (TB))) v2) ∧ (convert 28 9 (.slice A5 (L).length c5)).run Try.prog v2 = .ok (.string (str (L))) v2) ∧ (convert 28 9 (.slice A6 (TB).length c6)).run Try.prog v2 = .ok (.string (str (TB))) v2) := ⟨⟨⟨⟨trivial, hS.conv (A1, _, c1, L) (by simp)⟩, hS.conv (A2, _, c2, TB) (by simp)⟩, hS.conv (A5, _, c5, L) (by simp)⟩, hS.conv (A6, _, c6, TB) (by simp)⟩
            refine dr_take 9 (some 101) (v := ?_) rfl rfl (by kernel_rfl) (by kernel_rfl) (by kernel_rfl) (fun _ _ _ h => h) rfl hT (fun W hW => ?_) ?_
            rotate_left
            · (have h1 := hW; simp only [true_and] at h1; go_simp; try with_reducible rfl)
            try simp only [Act.put, List.setIfInBounds_toArray, List.set_cons_zero, List.set_cons_succ]
            refine dr_take 12 (some 104) (v := ?_) rfl rfl (by kernel_rfl) (by kernel_rfl) (by kernel_rfl) (fun _ _ _ h => h) rfl hT (fun W _ => ?_) ?_
            rotate_left
            · (go_simp; try with_reducible rfl)
            try simp only [Act.put, List.setIfInBounds_toArray, List.set_cons_zero, List.set_cons_succ]
            refine dr_take 13 (some 105) (v := ?_) rfl rfl (by kernel_rfl) (by kernel_rfl) (by kernel_rfl) (fun _ _ _ h => h) rfl hT (fun W _ => ?_) ?_
            rotate_left
            · (go_simp; try with_reducible rfl)
            try simp only [Act.put, List.setIfInBounds_toArray, List.set_cons_zero, List.set_cons_succ]
            refine dr_take 14 (some 2) (v := ?_) rfl rfl (by kernel_rfl) (by kernel_rfl) (by kernel_rfl) (fun _ _ _ h => h) rfl hT (fun W _ => ?_) ?_
            rotate_left
            · (go_simp; try with_reducible rfl)
            try simp only [Act.put, List.setIfInBounds_toArray, List.set_cons_zero, List.set_cons_succ]
            refine dr_done (by kernel_rfl) ?_
            go_wp2
            go_ret
            exact ⟨rfl, hS.ch⟩

end Go.Proofs.Ytbkncfedahifkaa
