/-
  The statements of layer 5: alike.
-/
import Derived.Test.YtbkncfedahifkaaGreatLKey
set_option linter.unusedVariables false
set_option linter.unusedSimpArgs false
namespace Go.Proofs.YtbkncfedahifkaaGreat
open Go.RowKit Go.Maps Go.Sort Go.Shelf

/-- Those of the first k keys that are there. -/
def here (D : Mp) (k : Nat) : List (List UInt8) := ((List.range k).filter (fun j => has D (skey (keyN j)))).map keyN
theorem here_succ (D : Mp) (k : Nat) : here D (k + 1) = here D k ++ (if has D (skey (keyN k)) then [keyN k] else []) := by
  unfold here
  rw [List.range_succ, List.filter_append, List.map_append]
  cases h : has D (skey (keyN k)) <;> simp [h]
def tot (D : Mp) (k : Nat) : Nat := ((here D k).map (wt D)).sum
theorem here_nodup (D : Mp) : (here D 7).Nodup := by
  unfold here
  refine List.pairwise_map.2 ?_
  have h1 : ((List.range 7).filter (fun j => has D (skey (keyN j)))).Pairwise (· ≠ ·) := List.Pairwise.filter _ List.nodup_range
  refine h1.imp_of_mem (fun {a b} ha hb hne e => hne ?_)
  have ha' := List.mem_range.1 (List.mem_filter.1 ha).1
  have hb' := List.mem_range.1 (List.mem_filter.1 hb).1
  exact keyN_inj a ha' b hb' e
/-- Keys of the seven alone. -/
def Seven (D : Mp) : Prop := ∀ k, has D (skey k) = true → ∃ j, j < 7 ∧ k = keyN j
theorem here_mem {D : Mp} (h : Seven D) (x : List UInt8) : x ∈ here D 7 ↔ has D (skey x) = true := by
  unfold here
  rw [List.mem_map]
  constructor
  · rintro ⟨j, hj, rfl⟩
    exact (List.mem_filter.1 hj).2
  · intro hx
    obtain ⟨j, hj, rfl⟩ := h x hx
    exact ⟨j, List.mem_filter.2 ⟨List.mem_range.2 hj, hx⟩, rfl⟩
theorem here_len (D : Mp) (k : Nat) : (here D k).length ≤ k := by
  unfold here
  rw [List.length_map]
  have := List.length_filter_le (fun j => has D (skey (keyN j))) (List.range k)
  rw [List.length_range] at this
  exact this
theorem seven_empty : Seven (.map []) := fun k hk => by cases hk
theorem seven_chg {D : Mp} (h : Seven D) {p : PairL} (hp : ∃ j, j < 7 ∧ p.k = keyN j) : Seven (chg D p) := by
  intro k hk
  unfold chg at hk
  by_cases e : k = p.k
  · rw [e]; exact hp
  · split at hk
    · rw [has_del_other (skey_ne e)] at hk
      exact h k hk
    · rw [has_put_other (skey_ne e)] at hk
      exact h k hk
theorem seven_chgs : ∀ {ps : List PairL} {D : Mp}, Seven D → (∀ p ∈ ps, ∃ j, j < 7 ∧ p.k = keyN j) → Seven (chgs D ps)
  | [], D, h, hp => h
  | p :: ps, D, h, hp => seven_chgs (D := chg D p) (seven_chg h (hp p (by simp))) (fun q hq => hp q (by simp [hq]))
def below (K : List (List UInt8)) (i : Nat) : Nat := ((K.take i).filter (fun k => ([97, 47] : List UInt8).isPrefixOf k)).length
theorem below_succ (K : List (List UInt8)) (i : Nat) (h : i < K.length) : below K (i + 1) = below K i + (if ([97, 47] : List UInt8).isPrefixOf K[i] then 1 else 0) := by
  unfold below
  rw [List.take_succ_eq_append_getElem h, List.filter_append, List.length_append]
  cases hb : ([97, 47] : List UInt8).isPrefixOf K[i] <;> simp [hb]
theorem keysP_nil (D : Mp) : keysP D [] = keysL D := by
  unfold keysP
  rw [List.filter_eq_self]
  intro a _
  simp

section
variable {sb lb um b g m n sz turn a : Nat} {X : List Nat} {D : Mp}
set_option maxRecDepth 100000 in
set_option maxHeartbeats 4000000 in
theorem alike_any (mm : Nat) (w : World) (h : StoreS w sb lb um b g m X n sz turn a D) (hM : IsM w mm D) (h7 : Seven D) :
    Calls Tryz.prog 20 #[.pointer (some ⟨sb, 0, none⟩), .map (some mm)] w fun e w' => e = .returned (.bool true) ∧ Ch [] w w' := by
  have hsm := h.small
  have hper := h.perm (here_nodup D) (here_mem h7)
  have HSM := Lib.hid hsm
  have HPER := Lib.hid hper
  clear hsm hper
  go_enter Tryz.func20, Tryz.ntmps20
  go_wp2_with fail
  go_loopw [5, 6, 7] (fun nv tv ki wr => ∃ k : Nat, k ≤ 7 ∧ ki = .int .u8 (k : Int) ∧ nv = .int .i64 (((here D k).length : Nat) : Int) ∧ tv = .int .i64 ((tot D k : Nat) : Int) ∧ tot D k ≤ 2000 * k ∧ Ch [] w wr) (fun _ _ ki _ => 7 - (intOf ki).toNat)
  case atStart => exact ⟨0, by omega, rfl, by simp [here], by simp [tot, here], by simp [tot, here], Ch.refl _ _⟩
  case round =>
    obtain ⟨k, hk, rfl, rfl, rfl, htk, hch⟩ := hrel
    obtain ⟨wA, hwA⟩ : ∃ W, W = wr := ⟨_, rfl⟩
    subst hwA
    have hnk := here_len D k
    by_cases hlt : k < 7
    · have hk1 := fun W => key5_at (k : Int) k hlt (by omega) (by omega) W
      go_wp2_with fail
      refine (hk1 wA).mono ?_
      rintro e wB ⟨rfl, hcB⟩
      have hgt := stget_any (str (keyN k)) wB ((h.nil hch).nil hcB) (by rw [str_size]; have := keyN_le k; omega)
      rw [str_data] at hgt
      go_wp2_with fail
      refine hgt.mono ?_
      rintro e w' ⟨rfl, rfl⟩
      clear hgt
      go_wp2_with fail
      refine (hk1 wB).mono ?_
      rintro e wC ⟨rfl, hcC⟩
      have hcAC := (hch.trans hcB (by simp)).trans hcC (by simp)
      obtain ⟨hlk, _⟩ := (hM.keep hcAC (by simp)).look (keyN k) (by have := keyN_le k; omega)
      have hnq := neq_str (getL D (keyN k)) (getL D (keyN k))
      simp only [decide_true, Bool.not_true] at hnq
      have e1 := here_succ D k
      have hsz := HSM.out (keyN k)
      have hs1 := str_size (keyN k)
      have hs2 := str_size (getL D (keyN k))
      cases hh : has D (skey (keyN k)) with
      | false =>
        rw [hh] at hlk e1
        have e2 : tot D (k + 1) = tot D k := by unfold tot; rw [e1]; simp
        have e3 : (here D (k + 1)).length = (here D k).length := by rw [e1]; simp
        have E2 := Lib.hid e2
        have E3 := Lib.hid e3
        clear e1 e2 e3 hk1 hs1 hs2
        generalize getL D (keyN k) = vv at *
        generalize keyN k = kk at *
        generalize (here D k).length = cn at *
        generalize tot D k = tn at *
        go_wp2_with fail
        refine ⟨⟨k + 1, by omega, by go_num, by rw [E3.out], by rw [E2.out], by rw [E2.out]; omega, hcAC⟩, ?_⟩
        simp [intOf]
        omega
      | true =>
        rw [hh] at hlk e1
        have hb := hsz hh
        have e2 : tot D (k + 1) = tot D k + ((keyN k).length + (getL D (keyN k)).length) := by unfold tot; rw [e1]; simp [wt]
        have e3 : (here D (k + 1)).length = (here D k).length + 1 := by rw [e1]; simp
        rw [← hs1, ← hs2] at e2 hb
        have E2 := Lib.hid e2
        have E3 := Lib.hid e3
        clear e1 e2 e3 hs1 hs2
        have hkd := hk1 wC
        generalize getL D (keyN k) = vv at *
        generalize hkk : keyN k = kk at *
        generalize (here D k).length = cn at *
        generalize tot D k = tn at *
        have HKK := Lib.hid hkk
        clear hk1 hkk
        go_wp2_with fail
        refine hkd.mono ?_
        rintro e wD ⟨rfl, hcD⟩
        go_wp2_with fail
        refine ⟨⟨k + 1, by omega, by go_num, by rw [E3.out]; go_num, by rw [E2.out]; go_num, by rw [E2.out]; omega, hcAC.trans hcD (by simp)⟩, ?_⟩
        simp [intOf]
        omega
    · obtain rfl : k = 7 := by omega
      clear hlt hk
      have hhl : (here D 7).length = (keysL D).length := by rw [HPER.out.length_eq, (keysL_perm D).length_eq]
      have hto : tot D 7 = sizeM D := by unfold tot sizeM; exact sum_perm (HPER.out.map _)
      have hKlt := keysL_lt HPER.out (here_nodup D)
      rw [hhl] at hnk ⊢
      rw [hto] at htk ⊢
      have hk0 := stkeys_any [] wA (h.nil hch)
      rw [keysP_nil] at hk0
      have hbel : below (keysL D) (keysL D).length = (keysP D [97, 47]).length := by unfold below keysP; rw [List.take_length]
      obtain ⟨K, hK⟩ : ∃ K, keysL D = K := ⟨_, rfl⟩
      rw [hK] at hk0 hKlt hnk hbel ⊢
      generalize hKn : K.length = q at *
      have HKN := Lib.hid hKn
      have HKLT := Lib.hid hKlt
      have HBEL := Lib.hid hbel
      clear hKn hKlt hbel hhl hto hK
      have hcwA := hch
      go_wp2_with fail
      refine hk0.mono ?_
      rintro e w5 ⟨v5, rfl, hr5, hc5⟩
      clear hk0
      obtain ⟨A5, c5, rfl⟩ := own_slice hr5
      have hrd5 := own_rd hr5
      have hs5 := (h.nil hch).nil hc5
      have hcw5 := hch.trans hc5 (by simp)
      clear hr5
      go_wp2_with fail
      go_loopw [13] (fun ki wr => ∃ i : Nat, 1 ≤ i ∧ (i ≤ q ∨ i = 1) ∧ ki = .int .i64 (i : Int) ∧ Ch [] w5 wr) (fun ki _ => q - (intOf ki).toNat)
      case atStart => exact ⟨1, by omega, .inr rfl, rfl, Ch.refl _ _⟩
      case round =>
        obtain ⟨i, hi1, hiq, rfl, hch2⟩ := hrel
        obtain ⟨wB, hwB⟩ : ∃ W, W = wr := ⟨_, rfl⟩
        subst hwB
        by_cases hlt2 : i < q
        · have hiK : i < K.length := by have := HKN.out; omega
          obtain ⟨j, hj⟩ : ∃ j, i = j + 1 := ⟨i - 1, by omega⟩
          have hjK : j < K.length := by omega
          obtain ⟨kb, ko, rfl, hc⟩ := strs_cell (hrd5.keep hch2 (by simp)) i hiK
          obtain ⟨kb2, ko2, ek, hcj⟩ := strs_cell (hrd5.keep hch2 (by simp)) j hjK
          injection ek with ek
          injection ek with ek1 ek2
          subst ek1 ek2
          have hgeq := geq_str_no (List.pairwise_iff_getElem.1 HKLT.out j i hjK hiK (by omega))
          have hji : (i : Int) - 1 = (j : Int) := by omega
          have hjq : (j : Int) < (q : Int) := by omega
          have hiq2 : (i : Int) < (q : Int) := by omega
          have hjw : IntKind.i64.wrap (j : Int) = (j : Int) := by rw [IntKind.wrap_i64]; omega
          generalize K[i] = x at *
          generalize K[j] = y at *
          have HJ := Lib.hid hj
          clear hj hjK hiK
          go_wp2_with fail
          refine dr_begin (by kernel_rfl) ?_
          refine dr_more (fun W => W.cell? ⟨kb, ko + i, none⟩ = some (.string (str x)) ∧ W.cell? ⟨kb, ko + j, none⟩ = some (.string (str y))) ?_
          have hT : True ∧ (wB.drew.cell? ⟨kb, ko + i, none⟩ = some (.string (str x)) ∧ wB.drew.cell? ⟨kb, ko + j, none⟩ = some (.string (str y))) := ⟨trivial, hc, hcj⟩
          refine dr_take 0 (some 61) (v := ?_) rfl rfl (by kernel_rfl) (by kernel_rfl) (by kernel_rfl) (fun _ _ _ h => h) rfl hT (fun W _ => ?_) ?_
          rotate_left
          · (go_simp; try with_reducible rfl)
          try simp only [Act.put, List.setIfInBounds_toArray, List.set_cons_zero, List.set_cons_succ]
          refine dr_take 1 (some 62) (v := ?_) rfl rfl (by kernel_rfl) (by kernel_rfl) (by kernel_rfl) (fun _ _ _ h => h) rfl hT (fun W _ => ?_) ?_
          rotate_left
          · (go_simp; try with_reducible rfl)
          try simp only [Act.put, List.setIfInBounds_toArray, List.set_cons_zero, List.set_cons_succ]
          refine dr_take 2 (some 63) (v := ?_) rfl rfl (by kernel_rfl) (by kernel_rfl) (by kernel_rfl) (fun _ _ _ h => h) rfl hT (fun W _ => ?_) ?_
          rotate_left
          · (go_simp; try with_reducible rfl)
          try simp only [Act.put, List.setIfInBounds_toArray, List.set_cons_zero, List.set_cons_succ]
          refine dr_take 3 (some 64) (v := ?_) rfl rfl (by kernel_rfl) (by kernel_rfl) (by kernel_rfl) (fun _ _ _ h => h) rfl hT (fun W _ => ?_) ?_
          rotate_left
          · (go_simp; try with_reducible rfl)
          try simp only [Act.put, List.setIfInBounds_toArray, List.set_cons_zero, List.set_cons_succ]
          refine dr_take 4 (some 65) (v := ?_) rfl rfl (by kernel_rfl) (by kernel_rfl) (by kernel_rfl) (fun _ _ _ h => h) rfl hT (fun W hW => ?_) ?_
          rotate_left
          · (have h1 := hW.2.2; go_simp; try with_reducible rfl)
          try simp only [Act.put, List.setIfInBounds_toArray, List.set_cons_zero, List.set_cons_succ]
          refine dr_take 5 (some 66) (v := ?_) rfl rfl (by kernel_rfl) (by kernel_rfl) (by kernel_rfl) (fun _ _ _ h => h) rfl hT (fun W _ => ?_) ?_
          rotate_left
          · (go_simp; try with_reducible rfl)
          try simp only [Act.put, List.setIfInBounds_toArray, List.set_cons_zero, List.set_cons_succ]
          refine dr_take 6 (some 67) (v := ?_) rfl rfl (by kernel_rfl) (by kernel_rfl) (by kernel_rfl) (fun _ _ _ h => h) rfl hT (fun W _ => ?_) ?_
          rotate_left
          · (go_simp; try with_reducible rfl)
          try simp only [Act.put, List.setIfInBounds_toArray, List.set_cons_zero, List.set_cons_succ]
          refine dr_take 7 (some 68) (v := ?_) rfl rfl (by kernel_rfl) (by kernel_rfl) (by kernel_rfl) (fun _ _ _ h => h) rfl hT (fun W _ => ?_) ?_
          rotate_left
          · (go_simp; try with_reducible rfl)
          try simp only [Act.put, List.setIfInBounds_toArray, List.set_cons_zero, List.set_cons_succ]
          refine dr_take 8 (some 69) (v := ?_) rfl rfl (by kernel_rfl) (by kernel_rfl) (by kernel_rfl) (fun _ _ _ h => h) rfl hT (fun W hW => ?_) ?_
          rotate_left
          · (have h1 := hW.2.1; go_simp; try with_reducible rfl)
          try simp only [Act.put, List.setIfInBounds_toArray, List.set_cons_zero, List.set_cons_succ]
          refine dr_take 9 (some 70) (v := ?_) rfl rfl (by kernel_rfl) (by kernel_rfl) (by kernel_rfl) (fun _ _ _ h => h) rfl hT (fun W _ => ?_) ?_
          rotate_left
          · (go_simp; try with_reducible rfl)
          try simp only [Act.put, List.setIfInBounds_toArray, List.set_cons_zero, List.set_cons_succ]
          refine dr_done (by kernel_rfl) ?_
          go_wp2_with fail
          refine ⟨⟨i + 1, by omega, by omega, by go_num, hch2.drew⟩, ?_⟩
          simp [intOf]
          omega
        · have hsB := hs5.nil hch2
          have hcwB := hcw5.trans hch2 (by simp)
          have hrdB := hrd5.keep hch2 (by simp)
          go_wp2_with fail
          go_loopw [14, 15] (fun nv ki wr => ∃ t : Nat, t ≤ q ∧ ki = .int .i64 (t : Int) ∧ nv = .int .i64 ((below K t : Nat) : Int) ∧ below K t ≤ t ∧ Ch [] wB wr) (fun _ ki _ => q - (intOf ki).toNat)
          case atStart => exact ⟨0, by omega, rfl, by simp [below], by simp [below], Ch.refl _ _⟩
          case round =>
            obtain ⟨t, htq, rfl, rfl, hbt, hch3⟩ := hrel
            obtain ⟨wC, hwC⟩ : ∃ W, W = wr := ⟨_, rfl⟩
            subst hwC
            by_cases hlt3 : t < q
            · have htK : t < K.length := by have := HKN.out; omega
              obtain ⟨kb, ko, rfl, hc⟩ := strs_cell (hrdB.keep hch3 (by simp)) t htK
              have e0 := below_succ K t htK
              generalize K[t] = x at *
              have hpt := prefix_take [97, 47] x
              by_cases hl2 : 2 ≤ x.length
              · have hz2 : 2 ≤ (str x).size := by rw [str_size]; exact hl2
                have hsl : ∀ W, (Instr.slice 9 (.string (str x)) none (some (.int .i64 2)) none).run Tryz.prog W = .ok (.string (str (x.take 2))) W := by
                  intro W
                  rw [run_slice_string_h W 9 (str x) Tryz.underlying9 .i64 2 (by omega) (by omega), show (2 : Int).toNat = 2 from rfl, str_extract]
                have heq : binOp .eql 9 (.string (str (x.take 2))) (.string ⟨#[97, 47]⟩) = pure (.bool (decide (x.take 2 = [97, 47]))) := eql_str (x.take 2) [97, 47]
                simp only [List.length_cons, List.length_nil, Nat.zero_add, Nat.reduceAdd, hl2, decide_true, Bool.true_and] at hpt
                rw [hpt] at e0
                cases hd : decide (x.take 2 = [97, 47]) with
                | true =>
                  rw [hd, if_pos rfl] at e0
                  rw [hd] at heq
                  have E0 := Lib.hid e0
                  clear e0 hpt hd hl2
                  generalize str (x.take 2) = sx at *
                  generalize below K t = bt at *
                  go_wp2_with fail
                  refine ⟨⟨t + 1, by omega, by go_num, by rw [E0.out]; go_num, by rw [E0.out]; omega, hch3⟩, ?_⟩
                  simp [intOf]
                  omega
                | false =>
                  rw [hd, if_neg (by simp), Nat.add_zero] at e0
                  rw [hd] at heq
                  have E0 := Lib.hid e0
                  clear e0 hpt hd hl2
                  generalize str (x.take 2) = sx at *
                  generalize below K t = bt at *
                  go_wp2_with fail
                  refine ⟨⟨t + 1, by omega, by go_num, by rw [E0.out, Nat.add_zero], by rw [E0.out]; omega, hch3⟩, ?_⟩
                  simp [intOf]
                  omega
              · have hz2 : (str x).size < 2 := by rw [str_size]; omega
                simp only [List.length_cons, List.length_nil, Nat.zero_add, Nat.reduceAdd, hl2, decide_false, Bool.false_and] at hpt
                rw [hpt, if_neg (by simp), Nat.add_zero] at e0
                have E0 := Lib.hid e0
                clear e0 hpt hl2
                generalize below K t = bt at *
                go_wp2_with fail
                refine ⟨⟨t + 1, by omega, by go_num, by rw [E0.out, Nat.add_zero], by rw [E0.out]; omega, hch3⟩, ?_⟩
                simp [intOf]
                omega
            · obtain rfl : t = q := by omega
              clear hlt3 htq hlt2
              have hsC := hsB.nil hch3
              have hsz := stsize_any wC hsC
              have hbl := HBEL.out
              rw [hbl]
              clear hbl hbt
              generalize sizeM D = T at *
              go_wp2_with fail
              refine hsz.mono ?_
              rintro e wD ⟨rfl, hcD⟩
              clear hsz
              have hk2 := stkeys_any [97, 47] wD (hsC.nil hcD)
              generalize hkp : keysP D [97, 47] = KP at *
              go_wp2_with fail
              refine hk2.mono ?_
              rintro e wE ⟨v6, rfl, hr6, hcE⟩
              clear hk2
              obtain ⟨A6, c6, rfl⟩ := own_slice hr6
              go_wp2_with fail
              go_ret
              exact ⟨rfl, ((hcwB.trans hch3 (by simp)).trans hcD (by simp)).trans hcE (by simp)⟩
end

end Go.Proofs.YtbkncfedahifkaaGreat
