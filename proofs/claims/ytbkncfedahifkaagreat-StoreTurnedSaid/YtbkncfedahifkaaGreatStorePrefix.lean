/-
  StorePrefix.
-/
import Derived.Test.YtbkncfedahifkaaGreatPStore
set_option linter.unusedVariables false
set_option linter.unusedSimpArgs false
namespace Go.Proofs.YtbkncfedahifkaaGreat
open Go.RowKit Go.Maps Go.Sort Go.Shelf

def npair (x : List UInt8) : PairL := ⟨x, [], false⟩
theorem npair_ok {x : List UInt8} (h : x.length ≤ 30) : ∀ q ∈ [npair x], q.ok ∧ q.k.length ≤ 30 ∧ q.v.length ≤ 0 := by
  intro q hq
  rw [List.mem_singleton] at hq
  subst hq
  exact ⟨⟨by show x.length ≤ 1000; omega, by simp [npair]⟩, h, by simp [npair]⟩
theorem np_has (L : List (List UInt8)) (y : List UInt8) : has (chgs (.map []) (L.map npair)) (skey y) = true ↔ y ∈ L := by
  rw [has_puts _ _ isMap_empty (by intro p hp; obtain ⟨x, _, rfl⟩ := List.mem_map.1 hp; rfl)]
  rw [has_empty]
  simp only [Bool.false_eq_true, false_or]
  constructor
  · rintro ⟨p, hp, rfl⟩
    obtain ⟨x, hx, rfl⟩ := List.mem_map.1 hp
    exact hx
  · intro h
    exact ⟨npair y, List.mem_map.2 ⟨y, h, rfl⟩, rfl⟩
theorem np_get (L : List (List UInt8)) (y : List UInt8) : getL (chgs (.map []) (L.map npair)) y = [] :=
  getL_nils _ _ isMap_empty (by intro p hp; obtain ⟨x, _, rfl⟩ := List.mem_map.1 hp; exact ⟨rfl, rfl⟩) getL_empty y
theorem slice_pre {x p : List UInt8} (h : p.isPrefixOf x = true) (W : World) : (Instr.slice 9 (.string (str x)) none (some (.int .i64 ((str p).size : Int))) none).run Tryz.prog W = .ok (.string (str p)) W := by
  rw [prefix_take, Bool.and_eq_true, decide_eq_true_eq, decide_eq_true_eq] at h
  rw [run_slice_string_h W 9 (str x) Tryz.underlying9 .i64 _ (by omega) (by rw [str_size, str_size]; omega), str_size, Int.toNat_natCast, str_extract, h.2]
theorem slice_any {x p : List UInt8} (h : p.length ≤ x.length) (W : World) : (Instr.slice 9 (.string (str x)) none (some (.int .i64 ((str p).size : Int))) none).run Tryz.prog W = .ok (.string (str (x.take p.length))) W := by
  rw [run_slice_string_h W 9 (str x) Tryz.underlying9 .i64 _ (by omega) (by rw [str_size, str_size]; omega), str_size, Int.toNat_natCast, str_extract]
/-- How many there are. -/
def cntP (L : List (List UInt8)) (p : List UInt8) (k : Nat) : Nat := ((ddk L k).filter (fun q => p.isPrefixOf q)).length
theorem ddk_step (L : List (List UInt8)) (p : List UInt8) (k : Nat) (hk : k < L.length) : cntP L p (k + 1) = cntP L p k + (if p.isPrefixOf L[k] && !decide (L[k] ∈ L.take k) then 1 else 0) := by
  unfold cntP
  rw [ddk, getD_at L k hk]
  by_cases h : L[k] ∈ L.take k
  · simp [h]
  · rw [if_neg h, List.filter_append, List.length_append]
    cases hp : p.isPrefixOf L[k] <;> simp [h, hp]

set_option maxRecDepth 100000 in
set_option maxHeartbeats 8000000 in
theorem store_prefix (A : Option Addr) (n c : Nat) (L : List (List UInt8)) (p : List UInt8) (w : World) (hr : Rd 1 w A n c (L.map encStr)) :
    Calls Tryz.prog 6 #[.slice A n c, .string (str p)] w fun e w' => e = .returned (.bool true) ∧ Ch [] w w' := by
  have hl : L.length = n := by have := hr.len; simpa using this
  have hcc := hr.cap
  have hcm := hr.max
  go_enter Tryz.func6, Tryz.ntmps6
  go_wp2_with fail
  refine (known5 w).mono ?_
  rintro e w1 ⟨rfl, hc1⟩
  by_cases hn : n ≤ 20
  case neg =>
    go_wp2_with fail
    go_ret
    exact ⟨rfl, hc1⟩
  by_cases hp20 : (str p).size ≤ 20
  case neg =>
    go_wp2_with fail
    go_ret
    exact ⟨rfl, hc1⟩
  have hnd := newdiskS_any 400 512 [] w1 (by simp) (by omega) (by omega) (by omega) (by omega)
  rw [show ((400 : Nat) : Int) = 400 from rfl, show ((512 : Nat) : Int) = 512 from rfl] at hnd
  go_wp2_with fail
  refine hnd.mono ?_
  rintro e w2 ⟨b, g, m, rfl, hb, hg, hm, hlt2, hd2, hc2⟩
  clear hnd
  have ho := stopen_any w2 hd2 (by simp) (by omega) (by omega) (by omega)
  go_wp2_with fail
  refine ho.mono ?_
  rintro e w3 ⟨sb, lb, um, rfl, hsb, hlb, hum, hs3, hc3⟩
  clear ho hd2
  have hc03 := (hc1.trans hc2 (by simp)).trans hc3 (by simp)
  have hsw : w.heap.size ≤ sb ∧ w.heap.size ≤ lb ∧ w.heap.size ≤ um ∧ w.heap.size ≤ b ∧ w.heap.size ≤ g ∧ w.heap.size ≤ m := by
    have := hc1.size
    have := hc2.size
    omega
  have HSW := Lib.hid hsw
  clear hsw hc1 hc2 hc3
  go_wp2_with fail
  go_loopw [7] (fun ki wr => ∃ k a : Nat, k ≤ n ∧ ki = .int .i64 (k : Int) ∧ a ≤ k ∧ (∀ x ∈ L.take k, x.length ≤ 30) ∧ StoreS wr sb lb um b g m [] 400 512 0 a (chgs (.map []) ((L.take k).map npair)) ∧ Ch [] w wr) (fun ki _ => n - (intOf ki).toNat)
  case atStart => exact ⟨0, 0, by omega, rfl, by omega, by simp, by simpa [chgs] using hs3, hc03⟩
  case round =>
    clear hs3 hc03
    obtain ⟨k, a, hk, rfl, hak, h30, hsA, hch⟩ := hrel
    obtain ⟨wA, hwA⟩ : ∃ W, W = wr := ⟨_, rfl⟩
    subst hwA
    have H30 := Lib.hid h30
    clear h30
    by_cases hlt : k < n
    · obtain ⟨pb, po, rfl, hcell⟩ := strs_cell (hr.keep hch (by simp)) k (by omega)
      have e1 : (L.take (k + 1)).map npair = (L.take k).map npair ++ [npair (L[k]'(by omega))] := by rw [List.take_succ_eq_append_getElem (by omega), List.map_append]; rfl
      have e2 : L.take (k + 1) = L.take k ++ [L[k]'(by omega)] := List.take_succ_eq_append_getElem (by omega)
      generalize L[k]'(by omega) = x at *
      have E1 := Lib.hid e1
      have E2 := Lib.hid e2
      clear e1 e2
      by_cases hx : x.length ≤ 30
      case neg =>
        have hz : 30 < (str x).size := by rw [str_size]; omega
        go_wp2_with fail
        go_ret
        exact ⟨rfl, hch⟩
      have hz : (str x).size ≤ 30 := by rw [str_size]; exact hx
      have hcX : Ch [] wA (wA.alloc (.cells #[.string (str x), .string ⟨#[]⟩, .bool false] 32)) := (Ch.refl [] wA).alloc _
      have hok := npair_ok hx
      have ha := stapply_any (some ⟨wA.heap.size, 0, none⟩) 1 1 [npair x] (wA.alloc (.cells #[.string (str x), .string ⟨#[]⟩, .bool false] 32)) (hsA.nil hcX) (by simp) (pairs_block [npair x] (heap_alloc_new wA _) (by simp [maxLen])) rfl (by omega) (fun q hq => (hok q hq).1) (by omega) (commitP_fit 400 512 a 30 0 [npair x] hok (by omega) (by simp only [List.length_cons, List.length_nil]; omega))
      have hlen := lenP_le 512 30 0 1 [npair x] hok (by omega) (by simp)
      rw [← chgs_append] at ha
      have HLE := Lib.hid hlen
      clear hlen hok
      go_wp2_with fail
      refine ha.mono ?_
      rintro e wB ⟨rfl, hsB, hcB⟩
      clear ha
      rw [← E1.out] at hsB
      go_wp2_with fail
      refine ⟨⟨k + 1, _, by omega, by go_num, by have := HLE.out; omega, ?_, hsB, (hch.trans hcX (by simp)).trans hcB (by have := HSW.out; intro y hy; simp at hy; omega)⟩, ?_⟩
      · rw [E2.out]
        intro y hy
        rcases List.mem_append.1 hy with hy | hy
        · exact H30.out y hy
        · rw [List.mem_singleton] at hy
          subst hy
          exact hx
      · simp [intOf]
        omega
    · obtain rfl : k = n := by omega
      rw [List.take_of_length_le (by omega)] at hsA
      have hmem := fun y => np_has L y
      have hget := fun y => np_get L y
      generalize hDe : chgs (.map []) (L.map npair) = D at *
      have hdn := nodup_ddk L k (by omega)
      have hdm := mem_ddk L k (by omega)
      rw [List.take_of_length_le (by omega)] at hdm
      have hper := hsA.perm hdn (fun x => by rw [hdm x, hmem x])
      have hKlt := keysP_lt hper hdn p
      have hKlen := keysP_len hper p
      have hKp : ∀ x ∈ keysP D p, p.isPrefixOf x = true := fun x hx => (List.mem_filter.1 hx).2
      have hk5 := stkeys_any p wA hsA
      have hdl : (ddk L k).length ≤ 20 := by
        have : ∀ j, (ddk L j).length ≤ j := by
          intro j
          induction j with
          | zero => simp [ddk]
          | succ j ih => rw [ddk]; split; omega; rw [List.length_append]; simp; omega
        have := this k
        omega
      have hKb : (keysP D p).length ≤ 20 := by
        rw [hKlen]
        have := List.length_filter_le (fun q => p.isPrefixOf q) (ddk L k)
        omega
      obtain ⟨K, hK⟩ : ∃ K, keysP D p = K := ⟨_, rfl⟩
      rw [hK] at hKlt hKlen hKp hk5 hKb
      clear hlt hk hDe hdm hper hdn hdl hK
      have HKL := Lib.hid hKlen
      have HKLT := Lib.hid hKlt
      have HKP := Lib.hid hKp
      have HMEM := Lib.hid hmem
      have HGET := Lib.hid hget
      clear hKlen hKlt hKp hmem hget
      go_wp2_with fail
      refine hk5.mono ?_
      rintro e w5 ⟨v5, rfl, hr5, hc5⟩
      clear hk5
      obtain ⟨A5, c5, rfl⟩ := own_slice hr5
      have hrd5 := own_rd hr5
      have hs5 := hsA.nil hc5
      have hcw5 := hch.trans hc5 (by simp)
      generalize hKn : K.length = q at *
      have HKN := Lib.hid hKn
      clear hKn hr5 hsA
      go_wp2_with fail
      go_loopw [9] (fun ki wr => ∃ i : Nat, i ≤ q ∧ ki = .int .i64 (i : Int) ∧ Ch [] w5 wr) (fun ki _ => q - (intOf ki).toNat)
      case atStart => exact ⟨0, by omega, rfl, Ch.refl _ _⟩
      case round =>
        obtain ⟨i, hi, rfl, hch2⟩ := hrel
        obtain ⟨wB, hwB⟩ : ∃ W, W = wr := ⟨_, rfl⟩
        subst hwB
        by_cases hlt2 : i < q
        · have hiK : i < K.length := by have := HKN.out; omega
          obtain ⟨kb, ko, rfl, hc⟩ := strs_cell (hrd5.keep hch2 (by simp)) i hiK
          have hpx := HKP.out K[i] (List.getElem_mem hiK)
          have hszx : (str p).size ≤ (str K[i]).size := by
            rw [prefix_take, Bool.and_eq_true, decide_eq_true_eq] at hpx
            rw [str_size, str_size]
            exact hpx.1
          have hlss := lss_nat_no 3 hszx
          have hsl := fun W => slice_pre hpx W
          have hnp := neq_str p p
          simp only [decide_true, Bool.not_true] at hnp
          by_cases hi0 : i = 0
          · subst hi0
            generalize K[0] = x at *
            rw [Nat.add_zero] at hc
            go_wp2_with fail
            refine dr_begin (by kernel_rfl) ?_
            refine dr_more (fun W => W.cell? ⟨kb, ko, none⟩ = some (.string (str x))) ?_
            have hT : True ∧ (wB.drew.cell? ⟨kb, ko, none⟩ = some (.string (str x))) := ⟨trivial, hc⟩
            refine dr_take 0 (some 63) (v := ?_) rfl rfl (by kernel_rfl) (by kernel_rfl) (by kernel_rfl) (fun _ _ _ h => h) rfl hT (fun W _ => ?_) ?_
            rotate_left
            · (go_simp; try with_reducible rfl)
            try simp only [Act.put, List.setIfInBounds_toArray, List.set_cons_zero, List.set_cons_succ]
            refine dr_take 1 (some 64) (v := ?_) rfl rfl (by kernel_rfl) (by kernel_rfl) (by kernel_rfl) (fun _ _ _ h => h) rfl hT (fun W _ => ?_) ?_
            rotate_left
            · (go_simp; try with_reducible rfl)
            try simp only [Act.put, List.setIfInBounds_toArray, List.set_cons_zero, List.set_cons_succ]
            refine dr_take 2 (some 65) (v := ?_) rfl rfl (by kernel_rfl) (by kernel_rfl) (by kernel_rfl) (fun _ _ _ h => h) rfl hT (fun W _ => ?_) ?_
            rotate_left
            · (go_simp; try with_reducible rfl)
            try simp only [Act.put, List.setIfInBounds_toArray, List.set_cons_zero, List.set_cons_succ]
            refine dr_take 3 (some 66) (v := ?_) rfl rfl (by kernel_rfl) (by kernel_rfl) (by kernel_rfl) (fun _ _ _ h => h) rfl hT (fun W hW => ?_) ?_
            rotate_left
            · (have h1 := hW.2; go_simp; try with_reducible rfl)
            try simp only [Act.put, List.setIfInBounds_toArray, List.set_cons_zero, List.set_cons_succ]
            refine dr_take 4 (some 67) (v := ?_) rfl rfl (by kernel_rfl) (by kernel_rfl) (by kernel_rfl) (fun _ _ _ h => h) rfl hT (fun W _ => ?_) ?_
            rotate_left
            · (go_simp; try with_reducible rfl)
            try simp only [Act.put, List.setIfInBounds_toArray, List.set_cons_zero, List.set_cons_succ]
            refine dr_take 5 (some 68) (v := ?_) rfl rfl (by kernel_rfl) (by kernel_rfl) (by kernel_rfl) (fun _ _ _ h => h) rfl hT (fun W _ => ?_) ?_
            rotate_left
            · (go_simp; try with_reducible rfl)
            try simp only [Act.put, List.setIfInBounds_toArray, List.set_cons_zero, List.set_cons_succ]
            refine dr_take 6 (some 69) (v := ?_) rfl rfl (by kernel_rfl) (by kernel_rfl) (by kernel_rfl) (fun _ _ _ h => h) rfl hT (fun W _ => ?_) ?_
            rotate_left
            · (go_simp; try with_reducible rfl)
            try simp only [Act.put, List.setIfInBounds_toArray, List.set_cons_zero, List.set_cons_succ]
            refine dr_take 7 (some 70) (v := ?_) rfl rfl (by kernel_rfl) (by kernel_rfl) (by kernel_rfl) (fun _ _ _ h => h) rfl hT (fun W _ => ?_) ?_
            rotate_left
            · (go_simp; try with_reducible rfl)
            try simp only [Act.put, List.setIfInBounds_toArray, List.set_cons_zero, List.set_cons_succ]
            refine dr_take 8 (some 71) (v := ?_) rfl rfl (by kernel_rfl) (by kernel_rfl) (by kernel_rfl) (fun _ _ _ h => h) rfl hT (fun W _ => ?_) ?_
            rotate_left
            · (go_simp; try with_reducible rfl)
            try simp only [Act.put, List.setIfInBounds_toArray, List.set_cons_zero, List.set_cons_succ]
            refine dr_take 9 (some 72) (v := ?_) rfl rfl (by kernel_rfl) (by kernel_rfl) (by kernel_rfl) (fun _ _ _ h => h) rfl hT (fun W _ => ?_) ?_
            rotate_left
            · (go_simp; try with_reducible rfl)
            try simp only [Act.put, List.setIfInBounds_toArray, List.set_cons_zero, List.set_cons_succ]
            refine dr_take 10 (some 73) (v := ?_) rfl rfl (by kernel_rfl) (by kernel_rfl) (by kernel_rfl) (fun _ _ _ h => h) rfl hT (fun W _ => ?_) ?_
            rotate_left
            · (go_simp; try with_reducible rfl)
            try simp only [Act.put, List.setIfInBounds_toArray, List.set_cons_zero, List.set_cons_succ]
            refine dr_take 11 (some 74) (v := ?_) rfl rfl (by kernel_rfl) (by kernel_rfl) (by kernel_rfl) (fun _ _ _ h => h) rfl hT (fun W _ => ?_) ?_
            rotate_left
            · (go_simp; try with_reducible rfl)
            try simp only [Act.put, List.setIfInBounds_toArray, List.set_cons_zero, List.set_cons_succ]
            refine dr_take 12 (some 75) (v := ?_) rfl rfl (by kernel_rfl) (by kernel_rfl) (by kernel_rfl) (fun _ _ _ h => h) rfl hT (fun W hW => ?_) ?_
            rotate_left
            · (have h1 := hW.2; go_simp; try with_reducible rfl)
            try simp only [Act.put, List.setIfInBounds_toArray, List.set_cons_zero, List.set_cons_succ]
            refine dr_take 13 (some 76) (v := ?_) rfl rfl (by kernel_rfl) (by kernel_rfl) (by kernel_rfl) (fun _ _ _ h => h) rfl hT (fun W _ => ?_) ?_
            rotate_left
            · (go_simp; try with_reducible rfl)
            try simp only [Act.put, List.setIfInBounds_toArray, List.set_cons_zero, List.set_cons_succ]
            refine dr_take 14 (some 77) (v := ?_) rfl rfl (by kernel_rfl) (by kernel_rfl) (by kernel_rfl) (fun _ _ _ h => h) rfl hT (fun W _ => ?_) ?_
            rotate_left
            · (go_simp; try with_reducible rfl)
            try simp only [Act.put, List.setIfInBounds_toArray, List.set_cons_zero, List.set_cons_succ]
            refine dr_take 15 (some 78) (v := ?_) rfl rfl (by kernel_rfl) (by kernel_rfl) (by kernel_rfl) (fun _ _ _ h => h) rfl hT (fun W _ => ?_) ?_
            rotate_left
            · (go_simp; try with_reducible rfl)
            try simp only [Act.put, List.setIfInBounds_toArray, List.set_cons_zero, List.set_cons_succ]
            refine dr_take 16 (some 79) (v := ?_) rfl rfl (by kernel_rfl) (by kernel_rfl) (by kernel_rfl) (fun _ _ _ h => h) rfl hT (fun W _ => ?_) ?_
            rotate_left
            · (go_simp; try with_reducible rfl)
            try simp only [Act.put, List.setIfInBounds_toArray, List.set_cons_zero, List.set_cons_succ]
            refine dr_take 17 (some 80) (v := ?_) rfl rfl (by kernel_rfl) (by kernel_rfl) (by kernel_rfl) (fun _ _ _ h => h) rfl hT (fun W _ => ?_) ?_
            rotate_left
            · (go_simp; try with_reducible rfl)
            try simp only [Act.put, List.setIfInBounds_toArray, List.set_cons_zero, List.set_cons_succ]
            refine dr_take 18 (some 81) (v := ?_) rfl rfl (by kernel_rfl) (by kernel_rfl) (by kernel_rfl) (fun _ _ _ h => h) rfl hT (fun W _ => ?_) ?_
            rotate_left
            · (go_simp; try with_reducible rfl)
            try simp only [Act.put, List.setIfInBounds_toArray, List.set_cons_zero, List.set_cons_succ]
            refine dr_take 19 (some 82) (v := ?_) rfl rfl (by kernel_rfl) (by kernel_rfl) (by kernel_rfl) (fun _ _ _ h => h) rfl hT (fun W _ => ?_) ?_
            rotate_left
            · (go_simp; try with_reducible rfl)
            try simp only [Act.put, List.setIfInBounds_toArray, List.set_cons_zero, List.set_cons_succ]
            refine dr_take 20 (some 83) (v := ?_) rfl rfl (by kernel_rfl) (by kernel_rfl) (by kernel_rfl) (fun _ _ _ h => h) rfl hT (fun W _ => ?_) ?_
            rotate_left
            · (go_simp; try with_reducible rfl)
            try simp only [Act.put, List.setIfInBounds_toArray, List.set_cons_zero, List.set_cons_succ]
            refine dr_take 21 (some 84) (v := ?_) rfl rfl (by kernel_rfl) (by kernel_rfl) (by kernel_rfl) (fun _ _ _ h => h) rfl hT (fun W _ => ?_) ?_
            rotate_left
            · (go_simp; try with_reducible rfl)
            try simp only [Act.put, List.setIfInBounds_toArray, List.set_cons_zero, List.set_cons_succ]
            refine dr_take 22 (some 85) (v := ?_) rfl rfl (by kernel_rfl) (by kernel_rfl) (by kernel_rfl) (fun _ _ _ h => h) rfl hT (fun W _ => ?_) ?_
            rotate_left
            · (go_simp; try with_reducible rfl)
            try simp only [Act.put, List.setIfInBounds_toArray, List.set_cons_zero, List.set_cons_succ]
            refine dr_skip 23 (some 86) rfl rfl (by kernel_rfl) (by kernel_rfl) (by kernel_rfl) (fun _ _ _ h => h) rfl hT ?_
            try simp only [Act.put, List.setIfInBounds_toArray, List.set_cons_zero, List.set_cons_succ]
            refine dr_skip 24 (some 87) rfl rfl (by kernel_rfl) (by kernel_rfl) (by kernel_rfl) (fun _ _ _ h => h) rfl hT ?_
            try simp only [Act.put, List.setIfInBounds_toArray, List.set_cons_zero, List.set_cons_succ]
            refine dr_skip 25 (some 88) rfl rfl (by kernel_rfl) (by kernel_rfl) (by kernel_rfl) (fun _ _ _ h => h) rfl hT ?_
            try simp only [Act.put, List.setIfInBounds_toArray, List.set_cons_zero, List.set_cons_succ]
            refine dr_skip 26 (some 89) rfl rfl (by kernel_rfl) (by kernel_rfl) (by kernel_rfl) (fun _ _ _ h => h) rfl hT ?_
            try simp only [Act.put, List.setIfInBounds_toArray, List.set_cons_zero, List.set_cons_succ]
            refine dr_skip 27 (some 90) rfl rfl (by kernel_rfl) (by kernel_rfl) (by kernel_rfl) (fun _ _ _ h => h) rfl hT ?_
            try simp only [Act.put, List.setIfInBounds_toArray, List.set_cons_zero, List.set_cons_succ]
            refine dr_skip 28 (some 91) rfl rfl (by kernel_rfl) (by kernel_rfl) (by kernel_rfl) (fun _ _ _ h => h) rfl hT ?_
            try simp only [Act.put, List.setIfInBounds_toArray, List.set_cons_zero, List.set_cons_succ]
            refine dr_skip 29 (some 92) rfl rfl (by kernel_rfl) (by kernel_rfl) (by kernel_rfl) (fun _ _ _ h => h) rfl hT ?_
            try simp only [Act.put, List.setIfInBounds_toArray, List.set_cons_zero, List.set_cons_succ]
            refine dr_skip 30 (some 93) rfl rfl (by kernel_rfl) (by kernel_rfl) (by kernel_rfl) (fun _ _ _ h => h) rfl hT ?_
            try simp only [Act.put, List.setIfInBounds_toArray, List.set_cons_zero, List.set_cons_succ]
            refine dr_skip 31 (some 94) rfl rfl (by kernel_rfl) (by kernel_rfl) (by kernel_rfl) (fun _ _ _ h => h) rfl hT ?_
            try simp only [Act.put, List.setIfInBounds_toArray, List.set_cons_zero, List.set_cons_succ]
            refine dr_skip 32 (some 95) rfl rfl (by kernel_rfl) (by kernel_rfl) (by kernel_rfl) (fun _ _ _ h => h) rfl hT ?_
            try simp only [Act.put, List.setIfInBounds_toArray, List.set_cons_zero, List.set_cons_succ]
            refine dr_take 33 (some 96) (v := ?_) rfl rfl (by kernel_rfl) (by kernel_rfl) (by kernel_rfl) (fun _ _ _ h => h) rfl hT (fun W _ => ?_) ?_
            rotate_left
            · (go_simp; try with_reducible rfl)
            try simp only [Act.put, List.setIfInBounds_toArray, List.set_cons_zero, List.set_cons_succ]
            refine dr_take 34 (some 97) (v := ?_) rfl rfl (by kernel_rfl) (by kernel_rfl) (by kernel_rfl) (fun _ _ _ h => h) rfl hT (fun W _ => ?_) ?_
            rotate_left
            · (go_simp; try with_reducible rfl)
            try simp only [Act.put, List.setIfInBounds_toArray, List.set_cons_zero, List.set_cons_succ]
            refine dr_done (by kernel_rfl) ?_
            go_wp2_with fail
            refine ⟨⟨1, by omega, by go_num, hch2.drew⟩, ?_⟩
            simp [intOf]
            omega
          · obtain ⟨j, hj⟩ : ∃ j, i = j + 1 := ⟨i - 1, by omega⟩
            have hjK : j < K.length := by omega
            obtain ⟨kb2, ko2, ek, hcj⟩ := strs_cell (hrd5.keep hch2 (by simp)) j hjK
            injection ek with ek
            injection ek with ek1 ek2
            subst ek1 ek2
            have hlt3 : K[j] < K[i] := List.pairwise_iff_getElem.1 HKLT.out j i hjK hiK (by omega)
            have hgeq := geq_str_no hlt3
            have hji : (i : Int) - 1 = (j : Int) := by omega
            have hjq : (j : Int) < (q : Int) := by omega
            have hjw : IntKind.i64.wrap (j : Int) = (j : Int) := by rw [IntKind.wrap_i64]; omega
            have hiq : (i : Int) < (q : Int) := by omega
            have hgt := gtr_int_yes 3 .i64 (show (0 : Int) < (i : Int) by omega)
            generalize K[i] = x at *
            generalize K[j] = y at *
            have HJ := Lib.hid hj
            clear hj hjK hiK
            go_wp2_with fail
            refine dr_begin (by kernel_rfl) ?_
            refine dr_more (fun W => W.cell? ⟨kb, ko + i, none⟩ = some (.string (str x)) ∧ W.cell? ⟨kb, ko + j, none⟩ = some (.string (str y))) ?_
            have hT : True ∧ (wB.drew.cell? ⟨kb, ko + i, none⟩ = some (.string (str x)) ∧ wB.drew.cell? ⟨kb, ko + j, none⟩ = some (.string (str y))) := ⟨trivial, hc, hcj⟩
            refine dr_take 0 (some 63) (v := ?_) rfl rfl (by kernel_rfl) (by kernel_rfl) (by kernel_rfl) (fun _ _ _ h => h) rfl hT (fun W _ => ?_) ?_
            rotate_left
            · (go_simp; try with_reducible rfl)
            try simp only [Act.put, List.setIfInBounds_toArray, List.set_cons_zero, List.set_cons_succ]
            refine dr_take 1 (some 64) (v := ?_) rfl rfl (by kernel_rfl) (by kernel_rfl) (by kernel_rfl) (fun _ _ _ h => h) rfl hT (fun W _ => ?_) ?_
            rotate_left
            · (go_simp; try with_reducible rfl)
            try simp only [Act.put, List.setIfInBounds_toArray, List.set_cons_zero, List.set_cons_succ]
            refine dr_take 2 (some 65) (v := ?_) rfl rfl (by kernel_rfl) (by kernel_rfl) (by kernel_rfl) (fun _ _ _ h => h) rfl hT (fun W _ => ?_) ?_
            rotate_left
            · (go_simp; try with_reducible rfl)
            try simp only [Act.put, List.setIfInBounds_toArray, List.set_cons_zero, List.set_cons_succ]
            refine dr_take 3 (some 66) (v := ?_) rfl rfl (by kernel_rfl) (by kernel_rfl) (by kernel_rfl) (fun _ _ _ h => h) rfl hT (fun W hW => ?_) ?_
            rotate_left
            · (have h1 := hW.2.1; go_simp; try with_reducible rfl)
            try simp only [Act.put, List.setIfInBounds_toArray, List.set_cons_zero, List.set_cons_succ]
            refine dr_take 4 (some 67) (v := ?_) rfl rfl (by kernel_rfl) (by kernel_rfl) (by kernel_rfl) (fun _ _ _ h => h) rfl hT (fun W _ => ?_) ?_
            rotate_left
            · (go_simp; try with_reducible rfl)
            try simp only [Act.put, List.setIfInBounds_toArray, List.set_cons_zero, List.set_cons_succ]
            refine dr_take 5 (some 68) (v := ?_) rfl rfl (by kernel_rfl) (by kernel_rfl) (by kernel_rfl) (fun _ _ _ h => h) rfl hT (fun W _ => ?_) ?_
            rotate_left
            · (go_simp; try with_reducible rfl)
            try simp only [Act.put, List.setIfInBounds_toArray, List.set_cons_zero, List.set_cons_succ]
            refine dr_take 6 (some 69) (v := ?_) rfl rfl (by kernel_rfl) (by kernel_rfl) (by kernel_rfl) (fun _ _ _ h => h) rfl hT (fun W _ => ?_) ?_
            rotate_left
            · (go_simp; try with_reducible rfl)
            try simp only [Act.put, List.setIfInBounds_toArray, List.set_cons_zero, List.set_cons_succ]
            refine dr_take 7 (some 70) (v := ?_) rfl rfl (by kernel_rfl) (by kernel_rfl) (by kernel_rfl) (fun _ _ _ h => h) rfl hT (fun W _ => ?_) ?_
            rotate_left
            · (go_simp; try with_reducible rfl)
            try simp only [Act.put, List.setIfInBounds_toArray, List.set_cons_zero, List.set_cons_succ]
            refine dr_take 8 (some 71) (v := ?_) rfl rfl (by kernel_rfl) (by kernel_rfl) (by kernel_rfl) (fun _ _ _ h => h) rfl hT (fun W _ => ?_) ?_
            rotate_left
            · (go_simp; try with_reducible rfl)
            try simp only [Act.put, List.setIfInBounds_toArray, List.set_cons_zero, List.set_cons_succ]
            refine dr_take 9 (some 72) (v := ?_) rfl rfl (by kernel_rfl) (by kernel_rfl) (by kernel_rfl) (fun _ _ _ h => h) rfl hT (fun W _ => ?_) ?_
            rotate_left
            · (go_simp; try with_reducible rfl)
            try simp only [Act.put, List.setIfInBounds_toArray, List.set_cons_zero, List.set_cons_succ]
            refine dr_take 10 (some 73) (v := ?_) rfl rfl (by kernel_rfl) (by kernel_rfl) (by kernel_rfl) (fun _ _ _ h => h) rfl hT (fun W _ => ?_) ?_
            rotate_left
            · (go_simp; try with_reducible rfl)
            try simp only [Act.put, List.setIfInBounds_toArray, List.set_cons_zero, List.set_cons_succ]
            refine dr_take 11 (some 74) (v := ?_) rfl rfl (by kernel_rfl) (by kernel_rfl) (by kernel_rfl) (fun _ _ _ h => h) rfl hT (fun W _ => ?_) ?_
            rotate_left
            · (go_simp; try with_reducible rfl)
            try simp only [Act.put, List.setIfInBounds_toArray, List.set_cons_zero, List.set_cons_succ]
            refine dr_take 12 (some 75) (v := ?_) rfl rfl (by kernel_rfl) (by kernel_rfl) (by kernel_rfl) (fun _ _ _ h => h) rfl hT (fun W hW => ?_) ?_
            rotate_left
            · (have h1 := hW.2.1; go_simp; try with_reducible rfl)
            try simp only [Act.put, List.setIfInBounds_toArray, List.set_cons_zero, List.set_cons_succ]
            refine dr_take 13 (some 76) (v := ?_) rfl rfl (by kernel_rfl) (by kernel_rfl) (by kernel_rfl) (fun _ _ _ h => h) rfl hT (fun W _ => ?_) ?_
            rotate_left
            · (go_simp; try with_reducible rfl)
            try simp only [Act.put, List.setIfInBounds_toArray, List.set_cons_zero, List.set_cons_succ]
            refine dr_take 14 (some 77) (v := ?_) rfl rfl (by kernel_rfl) (by kernel_rfl) (by kernel_rfl) (fun _ _ _ h => h) rfl hT (fun W _ => ?_) ?_
            rotate_left
            · (go_simp; try with_reducible rfl)
            try simp only [Act.put, List.setIfInBounds_toArray, List.set_cons_zero, List.set_cons_succ]
            refine dr_take 15 (some 78) (v := ?_) rfl rfl (by kernel_rfl) (by kernel_rfl) (by kernel_rfl) (fun _ _ _ h => h) rfl hT (fun W _ => ?_) ?_
            rotate_left
            · (go_simp; try with_reducible rfl)
            try simp only [Act.put, List.setIfInBounds_toArray, List.set_cons_zero, List.set_cons_succ]
            refine dr_take 16 (some 79) (v := ?_) rfl rfl (by kernel_rfl) (by kernel_rfl) (by kernel_rfl) (fun _ _ _ h => h) rfl hT (fun W _ => ?_) ?_
            rotate_left
            · (go_simp; try with_reducible rfl)
            try simp only [Act.put, List.setIfInBounds_toArray, List.set_cons_zero, List.set_cons_succ]
            refine dr_take 17 (some 80) (v := ?_) rfl rfl (by kernel_rfl) (by kernel_rfl) (by kernel_rfl) (fun _ _ _ h => h) rfl hT (fun W _ => ?_) ?_
            rotate_left
            · (go_simp; try with_reducible rfl)
            try simp only [Act.put, List.setIfInBounds_toArray, List.set_cons_zero, List.set_cons_succ]
            refine dr_take 18 (some 81) (v := ?_) rfl rfl (by kernel_rfl) (by kernel_rfl) (by kernel_rfl) (fun _ _ _ h => h) rfl hT (fun W _ => ?_) ?_
            rotate_left
            · (go_simp; try with_reducible rfl)
            try simp only [Act.put, List.setIfInBounds_toArray, List.set_cons_zero, List.set_cons_succ]
            refine dr_take 19 (some 82) (v := ?_) rfl rfl (by kernel_rfl) (by kernel_rfl) (by kernel_rfl) (fun _ _ _ h => h) rfl hT (fun W _ => ?_) ?_
            rotate_left
            · (go_simp; try with_reducible rfl)
            try simp only [Act.put, List.setIfInBounds_toArray, List.set_cons_zero, List.set_cons_succ]
            refine dr_take 20 (some 83) (v := ?_) rfl rfl (by kernel_rfl) (by kernel_rfl) (by kernel_rfl) (fun _ _ _ h => h) rfl hT (fun W _ => ?_) ?_
            rotate_left
            · (go_simp; try with_reducible rfl)
            try simp only [Act.put, List.setIfInBounds_toArray, List.set_cons_zero, List.set_cons_succ]
            refine dr_take 21 (some 84) (v := ?_) rfl rfl (by kernel_rfl) (by kernel_rfl) (by kernel_rfl) (fun _ _ _ h => h) rfl hT (fun W _ => ?_) ?_
            rotate_left
            · (go_simp; try with_reducible rfl)
            try simp only [Act.put, List.setIfInBounds_toArray, List.set_cons_zero, List.set_cons_succ]
            refine dr_take 22 (some 85) (v := ?_) rfl rfl (by kernel_rfl) (by kernel_rfl) (by kernel_rfl) (fun _ _ _ h => h) rfl hT (fun W _ => ?_) ?_
            rotate_left
            · (go_simp; try with_reducible rfl)
            try simp only [Act.put, List.setIfInBounds_toArray, List.set_cons_zero, List.set_cons_succ]
            refine dr_take 23 (some 86) (v := ?_) rfl rfl (by kernel_rfl) (by kernel_rfl) (by kernel_rfl) (fun _ _ _ h => h) rfl hT (fun W _ => ?_) ?_
            rotate_left
            · (go_simp; try with_reducible rfl)
            try simp only [Act.put, List.setIfInBounds_toArray, List.set_cons_zero, List.set_cons_succ]
            refine dr_take 24 (some 87) (v := ?_) rfl rfl (by kernel_rfl) (by kernel_rfl) (by kernel_rfl) (fun _ _ _ h => h) rfl hT (fun W _ => ?_) ?_
            rotate_left
            · (go_simp; try with_reducible rfl)
            try simp only [Act.put, List.setIfInBounds_toArray, List.set_cons_zero, List.set_cons_succ]
            refine dr_take 25 (some 88) (v := ?_) rfl rfl (by kernel_rfl) (by kernel_rfl) (by kernel_rfl) (fun _ _ _ h => h) rfl hT (fun W _ => ?_) ?_
            rotate_left
            · (go_simp; try with_reducible rfl)
            try simp only [Act.put, List.setIfInBounds_toArray, List.set_cons_zero, List.set_cons_succ]
            refine dr_take 26 (some 89) (v := ?_) rfl rfl (by kernel_rfl) (by kernel_rfl) (by kernel_rfl) (fun _ _ _ h => h) rfl hT (fun W _ => ?_) ?_
            rotate_left
            · (go_simp; try with_reducible rfl)
            try simp only [Act.put, List.setIfInBounds_toArray, List.set_cons_zero, List.set_cons_succ]
            refine dr_take 27 (some 90) (v := ?_) rfl rfl (by kernel_rfl) (by kernel_rfl) (by kernel_rfl) (fun _ _ _ h => h) rfl hT (fun W hW => ?_) ?_
            rotate_left
            · (have h1 := hW.2.2; go_simp; try with_reducible rfl)
            try simp only [Act.put, List.setIfInBounds_toArray, List.set_cons_zero, List.set_cons_succ]
            refine dr_take 28 (some 91) (v := ?_) rfl rfl (by kernel_rfl) (by kernel_rfl) (by kernel_rfl) (fun _ _ _ h => h) rfl hT (fun W _ => ?_) ?_
            rotate_left
            · (go_simp; try with_reducible rfl)
            try simp only [Act.put, List.setIfInBounds_toArray, List.set_cons_zero, List.set_cons_succ]
            refine dr_take 29 (some 92) (v := ?_) rfl rfl (by kernel_rfl) (by kernel_rfl) (by kernel_rfl) (fun _ _ _ h => h) rfl hT (fun W _ => ?_) ?_
            rotate_left
            · (go_simp; try with_reducible rfl)
            try simp only [Act.put, List.setIfInBounds_toArray, List.set_cons_zero, List.set_cons_succ]
            refine dr_take 30 (some 93) (v := ?_) rfl rfl (by kernel_rfl) (by kernel_rfl) (by kernel_rfl) (fun _ _ _ h => h) rfl hT (fun W _ => ?_) ?_
            rotate_left
            · (go_simp; try with_reducible rfl)
            try simp only [Act.put, List.setIfInBounds_toArray, List.set_cons_zero, List.set_cons_succ]
            refine dr_take 31 (some 94) (v := ?_) rfl rfl (by kernel_rfl) (by kernel_rfl) (by kernel_rfl) (fun _ _ _ h => h) rfl hT (fun W hW => ?_) ?_
            rotate_left
            · (have h1 := hW.2.1; go_simp; try with_reducible rfl)
            try simp only [Act.put, List.setIfInBounds_toArray, List.set_cons_zero, List.set_cons_succ]
            refine dr_take 32 (some 95) (v := ?_) rfl rfl (by kernel_rfl) (by kernel_rfl) (by kernel_rfl) (fun _ _ _ h => h) rfl hT (fun W _ => ?_) ?_
            rotate_left
            · (go_simp; try with_reducible rfl)
            try simp only [Act.put, List.setIfInBounds_toArray, List.set_cons_zero, List.set_cons_succ]
            refine dr_take 33 (some 96) (v := ?_) rfl rfl (by kernel_rfl) (by kernel_rfl) (by kernel_rfl) (fun _ _ _ h => h) rfl hT (fun W _ => ?_) ?_
            rotate_left
            · (go_simp; try with_reducible rfl)
            try simp only [Act.put, List.setIfInBounds_toArray, List.set_cons_zero, List.set_cons_succ]
            refine dr_take 34 (some 97) (v := ?_) rfl rfl (by kernel_rfl) (by kernel_rfl) (by kernel_rfl) (fun _ _ _ h => h) rfl hT (fun W _ => ?_) ?_
            rotate_left
            · (go_simp; try with_reducible rfl)
            try simp only [Act.put, List.setIfInBounds_toArray, List.set_cons_zero, List.set_cons_succ]
            refine dr_done (by kernel_rfl) ?_
            go_wp2_with fail
            refine ⟨⟨i + 1, by omega, by go_num, hch2.drew⟩, ?_⟩
            simp [intOf]
            omega
        · have hiq : q = i := by omega
          subst hiq
          clear hlt2 hi
          have hcwB := hcw5.trans hch2 (by simp)
          have hsB := hs5.nil hch2
          go_wp2_with fail
          go_loopw [10, 11] (fun nv ki wr => ∃ i : Nat, i ≤ k ∧ ki = .int .i64 (i : Int) ∧ nv = .int .i64 ((cntP L p i : Nat) : Int) ∧ cntP L p i ≤ i ∧ Ch [] wB wr) (fun _ ki _ => k - (intOf ki).toNat)
          case atStart => exact ⟨0, by omega, rfl, by simp [cntP, ddk], by simp [cntP, ddk], Ch.refl _ _⟩
          case round =>
            obtain ⟨i, hi, rfl, rfl, hcn, hch3⟩ := hrel
            obtain ⟨wC, hwC⟩ : ∃ W, W = wr := ⟨_, rfl⟩
            subst hwC
            have hcwC := hcwB.trans hch3 (by simp)
            by_cases hlt3 : i < k
            · have hiL : i < L.length := by omega
              obtain ⟨pb, po, rfl, hcells⟩ := (hr.keep hcwC (by simp)).cells (by omega)
              have hcell : wC.cell? ⟨pb, po + i, none⟩ = some (.string (str (L[i]'hiL))) := hcells i (encStr (L[i]'hiL)) (by rw [List.getElem?_map, List.getElem?_eq_getElem hiL]; rfl)
              have hmx : L[i]'hiL ∈ L := List.getElem_mem _
              have hxl := H30.out _ (by rw [List.take_of_length_le (by omega)]; exact hmx)
              have e0 := ddk_step L p i hiL
              have HCELLS := Lib.hid hcells
              clear hcells
              generalize L[i]'hiL = x at *
              have hxs : (str x).size ≤ 30 := by rw [str_size]; exact hxl
              by_cases hle : p.length ≤ x.length
              · have hszx : (str p).size ≤ (str x).size := by rw [str_size, str_size]; exact hle
                have hsl := fun W => slice_any hle W
                have heq := eql_str (x.take p.length) p
                have hpf := prefix_take p x
                simp only [hle, decide_true, Bool.true_and] at hpf
                generalize x.take p.length = t at *
                by_cases htp : t = p
                · simp only [htp, decide_true] at heq hpf hsl
                  rw [hpf] at e0
                  have E0 := Lib.hid e0
                  clear e0 hpf hxl htp
                  go_wp2_with fail
                  go_loopw [12, 13] (fun fv ji wr => ∃ j : Nat, j ≤ i ∧ ji = .int .i64 (j : Int) ∧ fv = .bool (!decide (x ∈ L.take j)) ∧ Ch [] wC wr) (fun _ ji _ => i - (intOf ji).toNat)
                  case atStart => exact ⟨0, by omega, rfl, by simp, Ch.refl _ _⟩
                  case round =>
                    obtain ⟨j, hj, rfl, rfl, hch4⟩ := hrel
                    obtain ⟨wD, hwD⟩ : ∃ W, W = wr := ⟨_, rfl⟩
                    subst hwD
                    have hcx := hch4.cell hcell (by simp)
                    by_cases hlt4 : j < i
                    · have hjL : j < L.length := by omega
                      have hcj0 := HCELLS.out j (encStr (L[j]'hjL)) (by rw [List.getElem?_map, List.getElem?_eq_getElem hjL]; rfl)
                      have hcj : wD.cell? ⟨pb, po + j, none⟩ = some (.string (str (L[j]'hjL))) := hch4.cell hcj0 (by simp)
                      have hjk : (j : Int) < (k : Int) := by omega
                      have hik : (i : Int) < (k : Int) := by omega
                      clear hcj0
                      by_cases hin : x ∈ L.take j
                      · simp only [hin, decide_true, Bool.not_true]
                        go_wp2_with fail
                        refine dr_begin (by kernel_rfl) ?_
                        refine dr_more (fun W => W.cell? ⟨pb, po + i, none⟩ = some (.string (str x))) ?_
                        have hT : True ∧ (wD.drew.cell? ⟨pb, po + i, none⟩ = some (.string (str x))) := ⟨trivial, hcx⟩
                        refine dr_take 0 (some 128) (v := ?_) rfl rfl (by kernel_rfl) (by kernel_rfl) (by kernel_rfl) (fun _ _ _ h => h) rfl hT (fun W _ => ?_) ?_
                        rotate_left
                        · (go_simp; try with_reducible rfl)
                        try simp only [Act.put, List.setIfInBounds_toArray, List.set_cons_zero, List.set_cons_succ]
                        refine dr_take 1 (some 129) (v := ?_) rfl rfl (by kernel_rfl) (by kernel_rfl) (by kernel_rfl) (fun _ _ _ h => h) rfl hT (fun W _ => ?_) ?_
                        rotate_left
                        · (go_simp; try with_reducible rfl)
                        try simp only [Act.put, List.setIfInBounds_toArray, List.set_cons_zero, List.set_cons_succ]
                        refine dr_skip 2 (some 130) rfl rfl (by kernel_rfl) (by kernel_rfl) (by kernel_rfl) (fun _ _ _ h => h) rfl hT ?_
                        try simp only [Act.put, List.setIfInBounds_toArray, List.set_cons_zero, List.set_cons_succ]
                        refine dr_skip 3 (some 131) rfl rfl (by kernel_rfl) (by kernel_rfl) (by kernel_rfl) (fun _ _ _ h => h) rfl hT ?_
                        try simp only [Act.put, List.setIfInBounds_toArray, List.set_cons_zero, List.set_cons_succ]
                        refine dr_skip 4 (some 132) rfl rfl (by kernel_rfl) (by kernel_rfl) (by kernel_rfl) (fun _ _ _ h => h) rfl hT ?_
                        try simp only [Act.put, List.setIfInBounds_toArray, List.set_cons_zero, List.set_cons_succ]
                        refine dr_skip 5 (some 133) rfl rfl (by kernel_rfl) (by kernel_rfl) (by kernel_rfl) (fun _ _ _ h => h) rfl hT ?_
                        try simp only [Act.put, List.setIfInBounds_toArray, List.set_cons_zero, List.set_cons_succ]
                        refine dr_skip 6 (some 134) rfl rfl (by kernel_rfl) (by kernel_rfl) (by kernel_rfl) (fun _ _ _ h => h) rfl hT ?_
                        try simp only [Act.put, List.setIfInBounds_toArray, List.set_cons_zero, List.set_cons_succ]
                        refine dr_skip 7 (some 135) rfl rfl (by kernel_rfl) (by kernel_rfl) (by kernel_rfl) (fun _ _ _ h => h) rfl hT ?_
                        try simp only [Act.put, List.setIfInBounds_toArray, List.set_cons_zero, List.set_cons_succ]
                        refine dr_skip 8 (some 136) rfl rfl (by kernel_rfl) (by kernel_rfl) (by kernel_rfl) (fun _ _ _ h => h) rfl hT ?_
                        try simp only [Act.put, List.setIfInBounds_toArray, List.set_cons_zero, List.set_cons_succ]
                        refine dr_skip 9 (some 137) rfl rfl (by kernel_rfl) (by kernel_rfl) (by kernel_rfl) (fun _ _ _ h => h) rfl hT ?_
                        try simp only [Act.put, List.setIfInBounds_toArray, List.set_cons_zero, List.set_cons_succ]
                        refine dr_skip 10 (some 138) rfl rfl (by kernel_rfl) (by kernel_rfl) (by kernel_rfl) (fun _ _ _ h => h) rfl hT ?_
                        try simp only [Act.put, List.setIfInBounds_toArray, List.set_cons_zero, List.set_cons_succ]
                        refine dr_take 11 (some 139) (v := ?_) rfl rfl (by kernel_rfl) (by kernel_rfl) (by kernel_rfl) (fun _ _ _ h => h) rfl hT (fun W _ => ?_) ?_
                        rotate_left
                        · (go_simp; try with_reducible rfl)
                        try simp only [Act.put, List.setIfInBounds_toArray, List.set_cons_zero, List.set_cons_succ]
                        refine dr_take 12 (some 12) (v := ?_) rfl rfl (by kernel_rfl) (by kernel_rfl) (by kernel_rfl) (fun _ _ _ h => h) rfl hT (fun W _ => ?_) ?_
                        rotate_left
                        · (go_simp; try with_reducible rfl)
                        try simp only [Act.put, List.setIfInBounds_toArray, List.set_cons_zero, List.set_cons_succ]
                        refine dr_done (by kernel_rfl) ?_
                        go_wp2_with fail
                        refine ⟨⟨j + 1, by omega, by go_num, by rw [take_at L j hjL]; simp [hin], hch4.drew⟩, ?_⟩
                        simp [intOf]
                        omega
                      · simp only [hin, decide_false, Bool.not_false]
                        by_cases hyx : L[j]'hjL = x
                        · rw [hyx] at hcj
                          have hnq := neq_str x x
                          simp only [decide_true, Bool.not_true] at hnq
                          have hin2 : x ∈ L.take (j + 1) := by rw [take_at L j hjL, getD_at L j hjL, hyx]; simp
                          clear hin hyx
                          go_wp2_with fail
                          refine dr_begin (by kernel_rfl) ?_
                          refine dr_more (fun W => W.cell? ⟨pb, po + i, none⟩ = some (.string (str x)) ∧ W.cell? ⟨pb, po + j, none⟩ = some (.string (str x))) ?_
                          have hT : True ∧ (wD.drew.cell? ⟨pb, po + i, none⟩ = some (.string (str x)) ∧ wD.drew.cell? ⟨pb, po + j, none⟩ = some (.string (str x))) := ⟨trivial, hcx, hcj⟩
                          refine dr_take 0 (some 128) (v := ?_) rfl rfl (by kernel_rfl) (by kernel_rfl) (by kernel_rfl) (fun _ _ _ h => h) rfl hT (fun W _ => ?_) ?_
                          rotate_left
                          · (go_simp; try with_reducible rfl)
                          try simp only [Act.put, List.setIfInBounds_toArray, List.set_cons_zero, List.set_cons_succ]
                          refine dr_take 1 (some 129) (v := ?_) rfl rfl (by kernel_rfl) (by kernel_rfl) (by kernel_rfl) (fun _ _ _ h => h) rfl hT (fun W _ => ?_) ?_
                          rotate_left
                          · (go_simp; try with_reducible rfl)
                          try simp only [Act.put, List.setIfInBounds_toArray, List.set_cons_zero, List.set_cons_succ]
                          refine dr_take 2 (some 130) (v := ?_) rfl rfl (by kernel_rfl) (by kernel_rfl) (by kernel_rfl) (fun _ _ _ h => h) rfl hT (fun W _ => ?_) ?_
                          rotate_left
                          · (go_simp; try with_reducible rfl)
                          try simp only [Act.put, List.setIfInBounds_toArray, List.set_cons_zero, List.set_cons_succ]
                          refine dr_take 3 (some 131) (v := ?_) rfl rfl (by kernel_rfl) (by kernel_rfl) (by kernel_rfl) (fun _ _ _ h => h) rfl hT (fun W _ => ?_) ?_
                          rotate_left
                          · (go_simp; try with_reducible rfl)
                          try simp only [Act.put, List.setIfInBounds_toArray, List.set_cons_zero, List.set_cons_succ]
                          refine dr_take 4 (some 132) (v := ?_) rfl rfl (by kernel_rfl) (by kernel_rfl) (by kernel_rfl) (fun _ _ _ h => h) rfl hT (fun W _ => ?_) ?_
                          rotate_left
                          · (go_simp; try with_reducible rfl)
                          try simp only [Act.put, List.setIfInBounds_toArray, List.set_cons_zero, List.set_cons_succ]
                          refine dr_take 5 (some 133) (v := ?_) rfl rfl (by kernel_rfl) (by kernel_rfl) (by kernel_rfl) (fun _ _ _ h => h) rfl hT (fun W hW => ?_) ?_
                          rotate_left
                          · (have h1 := hW.2.2; go_simp; try with_reducible rfl)
                          try simp only [Act.put, List.setIfInBounds_toArray, List.set_cons_zero, List.set_cons_succ]
                          refine dr_take 6 (some 134) (v := ?_) rfl rfl (by kernel_rfl) (by kernel_rfl) (by kernel_rfl) (fun _ _ _ h => h) rfl hT (fun W _ => ?_) ?_
                          rotate_left
                          · (go_simp; try with_reducible rfl)
                          try simp only [Act.put, List.setIfInBounds_toArray, List.set_cons_zero, List.set_cons_succ]
                          refine dr_take 7 (some 135) (v := ?_) rfl rfl (by kernel_rfl) (by kernel_rfl) (by kernel_rfl) (fun _ _ _ h => h) rfl hT (fun W _ => ?_) ?_
                          rotate_left
                          · (go_simp; try with_reducible rfl)
                          try simp only [Act.put, List.setIfInBounds_toArray, List.set_cons_zero, List.set_cons_succ]
                          refine dr_take 8 (some 136) (v := ?_) rfl rfl (by kernel_rfl) (by kernel_rfl) (by kernel_rfl) (fun _ _ _ h => h) rfl hT (fun W _ => ?_) ?_
                          rotate_left
                          · (go_simp; try with_reducible rfl)
                          try simp only [Act.put, List.setIfInBounds_toArray, List.set_cons_zero, List.set_cons_succ]
                          refine dr_take 9 (some 137) (v := ?_) rfl rfl (by kernel_rfl) (by kernel_rfl) (by kernel_rfl) (fun _ _ _ h => h) rfl hT (fun W hW => ?_) ?_
                          rotate_left
                          · (have h1 := hW.2.1; go_simp; try with_reducible rfl)
                          try simp only [Act.put, List.setIfInBounds_toArray, List.set_cons_zero, List.set_cons_succ]
                          refine dr_take 10 (some 138) (v := ?_) rfl rfl (by kernel_rfl) (by kernel_rfl) (by kernel_rfl) (fun _ _ _ h => h) rfl hT (fun W _ => ?_) ?_
                          rotate_left
                          · (go_simp; try with_reducible rfl)
                          try simp only [Act.put, List.setIfInBounds_toArray, List.set_cons_zero, List.set_cons_succ]
                          refine dr_take 11 (some 139) (v := ?_) rfl rfl (by kernel_rfl) (by kernel_rfl) (by kernel_rfl) (fun _ _ _ h => h) rfl hT (fun W _ => ?_) ?_
                          rotate_left
                          · (go_simp; try with_reducible rfl)
                          try simp only [Act.put, List.setIfInBounds_toArray, List.set_cons_zero, List.set_cons_succ]
                          refine dr_take 12 (some 12) (v := ?_) rfl rfl (by kernel_rfl) (by kernel_rfl) (by kernel_rfl) (fun _ _ _ h => h) rfl hT (fun W _ => ?_) ?_
                          rotate_left
                          · (go_simp; try with_reducible rfl)
                          try simp only [Act.put, List.setIfInBounds_toArray, List.set_cons_zero, List.set_cons_succ]
                          refine dr_done (by kernel_rfl) ?_
                          go_wp2_with fail
                          refine ⟨⟨j + 1, by omega, by go_num, by simp [hin2], hch4.drew⟩, ?_⟩
                          simp [intOf]
                          omega
                        · have hnq := neq_str (L[j]'hjL) x
                          simp only [hyx, decide_false, Bool.not_false] at hnq
                          have hin2 : x ∉ L.take (j + 1) := by
                            rw [take_at L j hjL, getD_at L j hjL, List.mem_append, List.mem_singleton]
                            rintro (h | h)
                            · exact hin h
                            · exact hyx h.symm
                          clear hin hyx
                          generalize L[j]'hjL = y at *
                          go_wp2_with fail
                          refine dr_begin (by kernel_rfl) ?_
                          refine dr_more (fun W => W.cell? ⟨pb, po + i, none⟩ = some (.string (str x)) ∧ W.cell? ⟨pb, po + j, none⟩ = some (.string (str y))) ?_
                          have hT : True ∧ (wD.drew.cell? ⟨pb, po + i, none⟩ = some (.string (str x)) ∧ wD.drew.cell? ⟨pb, po + j, none⟩ = some (.string (str y))) := ⟨trivial, hcx, hcj⟩
                          refine dr_take 0 (some 128) (v := ?_) rfl rfl (by kernel_rfl) (by kernel_rfl) (by kernel_rfl) (fun _ _ _ h => h) rfl hT (fun W _ => ?_) ?_
                          rotate_left
                          · (go_simp; try with_reducible rfl)
                          try simp only [Act.put, List.setIfInBounds_toArray, List.set_cons_zero, List.set_cons_succ]
                          refine dr_take 1 (some 129) (v := ?_) rfl rfl (by kernel_rfl) (by kernel_rfl) (by kernel_rfl) (fun _ _ _ h => h) rfl hT (fun W _ => ?_) ?_
                          rotate_left
                          · (go_simp; try with_reducible rfl)
                          try simp only [Act.put, List.setIfInBounds_toArray, List.set_cons_zero, List.set_cons_succ]
                          refine dr_take 2 (some 130) (v := ?_) rfl rfl (by kernel_rfl) (by kernel_rfl) (by kernel_rfl) (fun _ _ _ h => h) rfl hT (fun W _ => ?_) ?_
                          rotate_left
                          · (go_simp; try with_reducible rfl)
                          try simp only [Act.put, List.setIfInBounds_toArray, List.set_cons_zero, List.set_cons_succ]
                          refine dr_take 3 (some 131) (v := ?_) rfl rfl (by kernel_rfl) (by kernel_rfl) (by kernel_rfl) (fun _ _ _ h => h) rfl hT (fun W _ => ?_) ?_
                          rotate_left
                          · (go_simp; try with_reducible rfl)
                          try simp only [Act.put, List.setIfInBounds_toArray, List.set_cons_zero, List.set_cons_succ]
                          refine dr_take 4 (some 132) (v := ?_) rfl rfl (by kernel_rfl) (by kernel_rfl) (by kernel_rfl) (fun _ _ _ h => h) rfl hT (fun W _ => ?_) ?_
                          rotate_left
                          · (go_simp; try with_reducible rfl)
                          try simp only [Act.put, List.setIfInBounds_toArray, List.set_cons_zero, List.set_cons_succ]
                          refine dr_take 5 (some 133) (v := ?_) rfl rfl (by kernel_rfl) (by kernel_rfl) (by kernel_rfl) (fun _ _ _ h => h) rfl hT (fun W hW => ?_) ?_
                          rotate_left
                          · (have h1 := hW.2.2; go_simp; try with_reducible rfl)
                          try simp only [Act.put, List.setIfInBounds_toArray, List.set_cons_zero, List.set_cons_succ]
                          refine dr_take 6 (some 134) (v := ?_) rfl rfl (by kernel_rfl) (by kernel_rfl) (by kernel_rfl) (fun _ _ _ h => h) rfl hT (fun W _ => ?_) ?_
                          rotate_left
                          · (go_simp; try with_reducible rfl)
                          try simp only [Act.put, List.setIfInBounds_toArray, List.set_cons_zero, List.set_cons_succ]
                          refine dr_take 7 (some 135) (v := ?_) rfl rfl (by kernel_rfl) (by kernel_rfl) (by kernel_rfl) (fun _ _ _ h => h) rfl hT (fun W _ => ?_) ?_
                          rotate_left
                          · (go_simp; try with_reducible rfl)
                          try simp only [Act.put, List.setIfInBounds_toArray, List.set_cons_zero, List.set_cons_succ]
                          refine dr_take 8 (some 136) (v := ?_) rfl rfl (by kernel_rfl) (by kernel_rfl) (by kernel_rfl) (fun _ _ _ h => h) rfl hT (fun W _ => ?_) ?_
                          rotate_left
                          · (go_simp; try with_reducible rfl)
                          try simp only [Act.put, List.setIfInBounds_toArray, List.set_cons_zero, List.set_cons_succ]
                          refine dr_take 9 (some 137) (v := ?_) rfl rfl (by kernel_rfl) (by kernel_rfl) (by kernel_rfl) (fun _ _ _ h => h) rfl hT (fun W hW => ?_) ?_
                          rotate_left
                          · (have h1 := hW.2.1; go_simp; try with_reducible rfl)
                          try simp only [Act.put, List.setIfInBounds_toArray, List.set_cons_zero, List.set_cons_succ]
                          refine dr_take 10 (some 138) (v := ?_) rfl rfl (by kernel_rfl) (by kernel_rfl) (by kernel_rfl) (fun _ _ _ h => h) rfl hT (fun W _ => ?_) ?_
                          rotate_left
                          · (go_simp; try with_reducible rfl)
                          try simp only [Act.put, List.setIfInBounds_toArray, List.set_cons_zero, List.set_cons_succ]
                          refine dr_take 11 (some 139) (v := ?_) rfl rfl (by kernel_rfl) (by kernel_rfl) (by kernel_rfl) (fun _ _ _ h => h) rfl hT (fun W _ => ?_) ?_
                          rotate_left
                          · (go_simp; try with_reducible rfl)
                          try simp only [Act.put, List.setIfInBounds_toArray, List.set_cons_zero, List.set_cons_succ]
                          refine dr_take 12 (some 12) (v := ?_) rfl rfl (by kernel_rfl) (by kernel_rfl) (by kernel_rfl) (fun _ _ _ h => h) rfl hT (fun W _ => ?_) ?_
                          rotate_left
                          · (go_simp; try with_reducible rfl)
                          try simp only [Act.put, List.setIfInBounds_toArray, List.set_cons_zero, List.set_cons_succ]
                          refine dr_done (by kernel_rfl) ?_
                          go_wp2_with fail
                          refine ⟨⟨j + 1, by omega, by go_num, by simp [hin2], hch4.drew⟩, ?_⟩
                          simp [intOf]
                          omega
                    · obtain rfl : i = j := by omega
                      clear hlt4 hj
                      have hcD := hch3.trans hch4 (by simp)
                      by_cases hin : x ∈ L.take i
                      · simp only [hin, decide_true, Bool.not_true]
                        have e0 : cntP L p (i + 1) = cntP L p i := by rw [E0.out]; simp [hin]
                        have E1 := Lib.hid e0
                        clear e0 hin
                        generalize cntP L p i = cn at *
                        have hsD : StoreS wD sb lb um b g m [] 400 512 0 a D := hsB.nil hcD
                        have hgt := stget_any (str x) wD hsD (by omega)
                        rw [str_data, HGET.out x, (HMEM.out x).2 hmx] at hgt
                        have hnq0 : binOp .neq 9 (.string (str [])) (.string ⟨#[]⟩) = pure (.bool false) := neq_str [] []
                        go_wp2_with fail
                        refine hgt.mono ?_
                        rintro e w' ⟨rfl, rfl⟩
                        clear hgt
                        go_wp2_with fail
                        refine ⟨⟨i + 1, by omega, by go_num, by first | (rw [E1.out]; done) | (rw [E1.out]; go_num), by rw [E1.out]; omega, hcD⟩, ?_⟩
                        simp [intOf]
                        omega
                      · simp only [hin, decide_false, Bool.not_false]
                        have e0 : cntP L p (i + 1) = cntP L p i + 1 := by rw [E0.out]; simp [hin]
                        have E1 := Lib.hid e0
                        clear e0 hin
                        generalize cntP L p i = cn at *
                        have hsD : StoreS wD sb lb um b g m [] 400 512 0 a D := hsB.nil hcD
                        have hgt := stget_any (str x) wD hsD (by omega)
                        rw [str_data, HGET.out x, (HMEM.out x).2 hmx] at hgt
                        have hnq0 : binOp .neq 9 (.string (str [])) (.string ⟨#[]⟩) = pure (.bool false) := neq_str [] []
                        go_wp2_with fail
                        refine hgt.mono ?_
                        rintro e w' ⟨rfl, rfl⟩
                        clear hgt
                        go_wp2_with fail
                        refine ⟨⟨i + 1, by omega, by go_num, by first | (rw [E1.out]; done) | (rw [E1.out]; go_num), by rw [E1.out]; omega, hcD⟩, ?_⟩
                        simp [intOf]
                        omega
                · simp only [htp, decide_false] at heq hpf
                  rw [hpf] at e0
                  have E0 := Lib.hid e0
                  clear e0 hpf hxl htp
                  go_wp2_with fail
                  go_loopw [12, 13] (fun fv ji wr => ∃ j : Nat, j ≤ i ∧ ji = .int .i64 (j : Int) ∧ fv = .bool false ∧ Ch [] wC wr) (fun _ ji _ => i - (intOf ji).toNat)
                  case atStart => exact ⟨0, by omega, rfl, rfl, Ch.refl _ _⟩
                  case round =>
                    obtain ⟨j, hj, rfl, rfl, hch4⟩ := hrel
                    obtain ⟨wD, hwD⟩ : ∃ W, W = wr := ⟨_, rfl⟩
                    subst hwD
                    have hcx := hch4.cell hcell (by simp)
                    by_cases hlt4 : j < i
                    · have hjL : j < L.length := by omega
                      have hcj0 := HCELLS.out j (encStr (L[j]'hjL)) (by rw [List.getElem?_map, List.getElem?_eq_getElem hjL]; rfl)
                      have hcj : wD.cell? ⟨pb, po + j, none⟩ = some (.string (str (L[j]'hjL))) := hch4.cell hcj0 (by simp)
                      have hjk : (j : Int) < (k : Int) := by omega
                      have hik : (i : Int) < (k : Int) := by omega
                      clear hcj0
                      go_wp2_with fail
                      refine dr_begin (by kernel_rfl) ?_
                      refine dr_more (fun W => W.cell? ⟨pb, po + i, none⟩ = some (.string (str x))) ?_
                      have hT : True ∧ (wD.drew.cell? ⟨pb, po + i, none⟩ = some (.string (str x))) := ⟨trivial, hcx⟩
                      refine dr_take 0 (some 128) (v := ?_) rfl rfl (by kernel_rfl) (by kernel_rfl) (by kernel_rfl) (fun _ _ _ h => h) rfl hT (fun W _ => ?_) ?_
                      rotate_left
                      · (go_simp; try with_reducible rfl)
                      try simp only [Act.put, List.setIfInBounds_toArray, List.set_cons_zero, List.set_cons_succ]
                      refine dr_take 1 (some 129) (v := ?_) rfl rfl (by kernel_rfl) (by kernel_rfl) (by kernel_rfl) (fun _ _ _ h => h) rfl hT (fun W _ => ?_) ?_
                      rotate_left
                      · (go_simp; try with_reducible rfl)
                      try simp only [Act.put, List.setIfInBounds_toArray, List.set_cons_zero, List.set_cons_succ]
                      refine dr_skip 2 (some 130) rfl rfl (by kernel_rfl) (by kernel_rfl) (by kernel_rfl) (fun _ _ _ h => h) rfl hT ?_
                      try simp only [Act.put, List.setIfInBounds_toArray, List.set_cons_zero, List.set_cons_succ]
                      refine dr_skip 3 (some 131) rfl rfl (by kernel_rfl) (by kernel_rfl) (by kernel_rfl) (fun _ _ _ h => h) rfl hT ?_
                      try simp only [Act.put, List.setIfInBounds_toArray, List.set_cons_zero, List.set_cons_succ]
                      refine dr_skip 4 (some 132) rfl rfl (by kernel_rfl) (by kernel_rfl) (by kernel_rfl) (fun _ _ _ h => h) rfl hT ?_
                      try simp only [Act.put, List.setIfInBounds_toArray, List.set_cons_zero, List.set_cons_succ]
                      refine dr_skip 5 (some 133) rfl rfl (by kernel_rfl) (by kernel_rfl) (by kernel_rfl) (fun _ _ _ h => h) rfl hT ?_
                      try simp only [Act.put, List.setIfInBounds_toArray, List.set_cons_zero, List.set_cons_succ]
                      refine dr_skip 6 (some 134) rfl rfl (by kernel_rfl) (by kernel_rfl) (by kernel_rfl) (fun _ _ _ h => h) rfl hT ?_
                      try simp only [Act.put, List.setIfInBounds_toArray, List.set_cons_zero, List.set_cons_succ]
                      refine dr_skip 7 (some 135) rfl rfl (by kernel_rfl) (by kernel_rfl) (by kernel_rfl) (fun _ _ _ h => h) rfl hT ?_
                      try simp only [Act.put, List.setIfInBounds_toArray, List.set_cons_zero, List.set_cons_succ]
                      refine dr_skip 8 (some 136) rfl rfl (by kernel_rfl) (by kernel_rfl) (by kernel_rfl) (fun _ _ _ h => h) rfl hT ?_
                      try simp only [Act.put, List.setIfInBounds_toArray, List.set_cons_zero, List.set_cons_succ]
                      refine dr_skip 9 (some 137) rfl rfl (by kernel_rfl) (by kernel_rfl) (by kernel_rfl) (fun _ _ _ h => h) rfl hT ?_
                      try simp only [Act.put, List.setIfInBounds_toArray, List.set_cons_zero, List.set_cons_succ]
                      refine dr_skip 10 (some 138) rfl rfl (by kernel_rfl) (by kernel_rfl) (by kernel_rfl) (fun _ _ _ h => h) rfl hT ?_
                      try simp only [Act.put, List.setIfInBounds_toArray, List.set_cons_zero, List.set_cons_succ]
                      refine dr_take 11 (some 139) (v := ?_) rfl rfl (by kernel_rfl) (by kernel_rfl) (by kernel_rfl) (fun _ _ _ h => h) rfl hT (fun W _ => ?_) ?_
                      rotate_left
                      · (go_simp; try with_reducible rfl)
                      try simp only [Act.put, List.setIfInBounds_toArray, List.set_cons_zero, List.set_cons_succ]
                      refine dr_take 12 (some 12) (v := ?_) rfl rfl (by kernel_rfl) (by kernel_rfl) (by kernel_rfl) (fun _ _ _ h => h) rfl hT (fun W _ => ?_) ?_
                      rotate_left
                      · (go_simp; try with_reducible rfl)
                      try simp only [Act.put, List.setIfInBounds_toArray, List.set_cons_zero, List.set_cons_succ]
                      refine dr_done (by kernel_rfl) ?_
                      go_wp2_with fail
                      refine ⟨⟨j + 1, by omega, by go_num, rfl, hch4.drew⟩, ?_⟩
                      simp [intOf]
                      omega
                    · obtain rfl : i = j := by omega
                      clear hlt4 hj
                      have hcD := hch3.trans hch4 (by simp)
                      have e0 : cntP L p (i + 1) = cntP L p i := by rw [E0.out]; simp
                      have E1 := Lib.hid e0
                      clear e0
                      generalize cntP L p i = cn at *
                      have hsD : StoreS wD sb lb um b g m [] 400 512 0 a D := hsB.nil hcD
                      have hgt := stget_any (str x) wD hsD (by omega)
                      rw [str_data, HGET.out x, (HMEM.out x).2 hmx] at hgt
                      have hnq0 : binOp .neq 9 (.string (str [])) (.string ⟨#[]⟩) = pure (.bool false) := neq_str [] []
                      go_wp2_with fail
                      refine hgt.mono ?_
                      rintro e w' ⟨rfl, rfl⟩
                      clear hgt
                      go_wp2_with fail
                      refine ⟨⟨i + 1, by omega, by go_num, by first | (rw [E1.out]; done) | (rw [E1.out]; go_num), by rw [E1.out]; omega, hcD⟩, ?_⟩
                      simp [intOf]
                      omega
              · have hszx : (str x).size < (str p).size := by rw [str_size, str_size]; omega
                have hpf := prefix_take p x
                simp only [hle, decide_false, Bool.false_and] at hpf
                rw [hpf] at e0
                have E0 := Lib.hid e0
                clear e0 hpf hxl hle
                go_wp2_with fail
                go_loopw [12, 13] (fun fv ji wr => ∃ j : Nat, j ≤ i ∧ ji = .int .i64 (j : Int) ∧ fv = .bool false ∧ Ch [] wC wr) (fun _ ji _ => i - (intOf ji).toNat)
                case atStart => exact ⟨0, by omega, rfl, rfl, Ch.refl _ _⟩
                case round =>
                  obtain ⟨j, hj, rfl, rfl, hch4⟩ := hrel
                  obtain ⟨wD, hwD⟩ : ∃ W, W = wr := ⟨_, rfl⟩
                  subst hwD
                  have hcx := hch4.cell hcell (by simp)
                  by_cases hlt4 : j < i
                  · have hjL : j < L.length := by omega
                    have hcj0 := HCELLS.out j (encStr (L[j]'hjL)) (by rw [List.getElem?_map, List.getElem?_eq_getElem hjL]; rfl)
                    have hcj : wD.cell? ⟨pb, po + j, none⟩ = some (.string (str (L[j]'hjL))) := hch4.cell hcj0 (by simp)
                    have hjk : (j : Int) < (k : Int) := by omega
                    have hik : (i : Int) < (k : Int) := by omega
                    clear hcj0
                    go_wp2_with fail
                    refine dr_begin (by kernel_rfl) ?_
                    refine dr_more (fun W => W.cell? ⟨pb, po + i, none⟩ = some (.string (str x))) ?_
                    have hT : True ∧ (wD.drew.cell? ⟨pb, po + i, none⟩ = some (.string (str x))) := ⟨trivial, hcx⟩
                    refine dr_take 0 (some 128) (v := ?_) rfl rfl (by kernel_rfl) (by kernel_rfl) (by kernel_rfl) (fun _ _ _ h => h) rfl hT (fun W _ => ?_) ?_
                    rotate_left
                    · (go_simp; try with_reducible rfl)
                    try simp only [Act.put, List.setIfInBounds_toArray, List.set_cons_zero, List.set_cons_succ]
                    refine dr_take 1 (some 129) (v := ?_) rfl rfl (by kernel_rfl) (by kernel_rfl) (by kernel_rfl) (fun _ _ _ h => h) rfl hT (fun W _ => ?_) ?_
                    rotate_left
                    · (go_simp; try with_reducible rfl)
                    try simp only [Act.put, List.setIfInBounds_toArray, List.set_cons_zero, List.set_cons_succ]
                    refine dr_skip 2 (some 130) rfl rfl (by kernel_rfl) (by kernel_rfl) (by kernel_rfl) (fun _ _ _ h => h) rfl hT ?_
                    try simp only [Act.put, List.setIfInBounds_toArray, List.set_cons_zero, List.set_cons_succ]
                    refine dr_skip 3 (some 131) rfl rfl (by kernel_rfl) (by kernel_rfl) (by kernel_rfl) (fun _ _ _ h => h) rfl hT ?_
                    try simp only [Act.put, List.setIfInBounds_toArray, List.set_cons_zero, List.set_cons_succ]
                    refine dr_skip 4 (some 132) rfl rfl (by kernel_rfl) (by kernel_rfl) (by kernel_rfl) (fun _ _ _ h => h) rfl hT ?_
                    try simp only [Act.put, List.setIfInBounds_toArray, List.set_cons_zero, List.set_cons_succ]
                    refine dr_skip 5 (some 133) rfl rfl (by kernel_rfl) (by kernel_rfl) (by kernel_rfl) (fun _ _ _ h => h) rfl hT ?_
                    try simp only [Act.put, List.setIfInBounds_toArray, List.set_cons_zero, List.set_cons_succ]
                    refine dr_skip 6 (some 134) rfl rfl (by kernel_rfl) (by kernel_rfl) (by kernel_rfl) (fun _ _ _ h => h) rfl hT ?_
                    try simp only [Act.put, List.setIfInBounds_toArray, List.set_cons_zero, List.set_cons_succ]
                    refine dr_skip 7 (some 135) rfl rfl (by kernel_rfl) (by kernel_rfl) (by kernel_rfl) (fun _ _ _ h => h) rfl hT ?_
                    try simp only [Act.put, List.setIfInBounds_toArray, List.set_cons_zero, List.set_cons_succ]
                    refine dr_skip 8 (some 136) rfl rfl (by kernel_rfl) (by kernel_rfl) (by kernel_rfl) (fun _ _ _ h => h) rfl hT ?_
                    try simp only [Act.put, List.setIfInBounds_toArray, List.set_cons_zero, List.set_cons_succ]
                    refine dr_skip 9 (some 137) rfl rfl (by kernel_rfl) (by kernel_rfl) (by kernel_rfl) (fun _ _ _ h => h) rfl hT ?_
                    try simp only [Act.put, List.setIfInBounds_toArray, List.set_cons_zero, List.set_cons_succ]
                    refine dr_skip 10 (some 138) rfl rfl (by kernel_rfl) (by kernel_rfl) (by kernel_rfl) (fun _ _ _ h => h) rfl hT ?_
                    try simp only [Act.put, List.setIfInBounds_toArray, List.set_cons_zero, List.set_cons_succ]
                    refine dr_take 11 (some 139) (v := ?_) rfl rfl (by kernel_rfl) (by kernel_rfl) (by kernel_rfl) (fun _ _ _ h => h) rfl hT (fun W _ => ?_) ?_
                    rotate_left
                    · (go_simp; try with_reducible rfl)
                    try simp only [Act.put, List.setIfInBounds_toArray, List.set_cons_zero, List.set_cons_succ]
                    refine dr_take 12 (some 12) (v := ?_) rfl rfl (by kernel_rfl) (by kernel_rfl) (by kernel_rfl) (fun _ _ _ h => h) rfl hT (fun W _ => ?_) ?_
                    rotate_left
                    · (go_simp; try with_reducible rfl)
                    try simp only [Act.put, List.setIfInBounds_toArray, List.set_cons_zero, List.set_cons_succ]
                    refine dr_done (by kernel_rfl) ?_
                    go_wp2_with fail
                    refine ⟨⟨j + 1, by omega, by go_num, rfl, hch4.drew⟩, ?_⟩
                    simp [intOf]
                    omega
                  · obtain rfl : i = j := by omega
                    clear hlt4 hj
                    have hcD := hch3.trans hch4 (by simp)
                    have e0 : cntP L p (i + 1) = cntP L p i := by rw [E0.out]; simp
                    have E1 := Lib.hid e0
                    clear e0
                    generalize cntP L p i = cn at *
                    have hsD : StoreS wD sb lb um b g m [] 400 512 0 a D := hsB.nil hcD
                    have hgt := stget_any (str x) wD hsD (by omega)
                    rw [str_data, HGET.out x, (HMEM.out x).2 hmx] at hgt
                    have hnq0 : binOp .neq 9 (.string (str [])) (.string ⟨#[]⟩) = pure (.bool false) := neq_str [] []
                    go_wp2_with fail
                    refine hgt.mono ?_
                    rintro e w' ⟨rfl, rfl⟩
                    clear hgt
                    go_wp2_with fail
                    refine ⟨⟨i + 1, by omega, by go_num, by first | (rw [E1.out]; done) | (rw [E1.out]; go_num), by rw [E1.out]; omega, hcD⟩, ?_⟩
                    simp [intOf]
                    omega
            · obtain rfl : i = k := by omega
              have hfin : cntP L p i = q := by have h1 := HKN.out; have h2 := HKL.out; unfold cntP; omega
              rw [hfin]
              clear hlt3 hi hcn hfin
              go_wp2_with fail
              go_ret
              exact ⟨rfl, hcwC⟩

end Go.Proofs.YtbkncfedahifkaaGreat
