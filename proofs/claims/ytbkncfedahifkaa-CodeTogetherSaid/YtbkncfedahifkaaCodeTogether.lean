/-
  CodeTogether: many that are written by one call are those that are written one by one.
-/
import Derived.Test.YtbkncfedahifkaaTW
set_option linter.unusedVariables false
set_option linter.unusedSimpArgs false
namespace Go.Proofs.Ytbkncfedahifkaa
open Go.RowKit

theorem byt_len (ss : List ByteArray) (h : ∀ s ∈ ss, s.size ≤ 100) : bulk (byt ss) ≤ 100 * ss.length := by
  induction ss with
  | nil => simp [byt, bulk]
  | cons a l ih =>
    have h2 := ih (fun p hp => h p (by simp [hp]))
    have h3 := h a (by simp)
    simp only [byt, bulk, List.map_cons, List.sum_cons, List.length_cons] at h2 ⊢
    have e : a.data.toList.length = a.size := rfl
    omega
theorem bnum_lt (b : Bool) : bnum b < 18446744073709551616 := by cases b <;> decide
theorem encN_room {ns : List Nat} (h : ∀ x ∈ ns, x < 18446744073709551616) (hn : ns.length ≤ 20) : (encs ns).length ≤ 200 := by
  have := encs_len ns h
  omega
theorem encT_room {ss : List ByteArray} (h : ∀ s ∈ ss, s.size ≤ 100) (hn : ss.length ≤ 20) : (encTs (byt ss)).length ≤ 2200 := by
  have h1 := byt_len ss h
  have h2 := encTs_len (byt ss) (fun x hx => by
    simp only [byt, List.mem_map] at hx
    obtain ⟨s, hs, rfl⟩ := hx
    have := h s hs
    show s.size < _
    omega)
  have h3 : (byt ss).length = ss.length := by simp [byt]
  omega

set_option maxRecDepth 100000 in
set_option maxHeartbeats 4000000 in
theorem code_together (A0 A1 A2 A3 : Option Addr) (n0 n1 n2 n3 c0 c1 c2 c3 : Nat) (l0 : List Nat) (l1 : List Int) (l2 : List ByteArray) (l3 : List Bool) (w : World)
    (hr0 : Rd 1 w A0 n0 c0 (u64s l0)) (hr1 : Rd 1 w A1 n1 c1 (i64s l1)) (hr2 : Rd 1 w A2 n2 c2 (strs l2)) (hr3 : Rd 1 w A3 n3 c3 (bls l3))
    (hq0 : ∀ x ∈ l0, x < 18446744073709551616) (hq1 : ∀ x ∈ l1, -9223372036854775808 ≤ x ∧ x ≤ 9223372036854775807) :
    Calls Try.prog 5 #[.slice A0 n0 c0, .slice A1 n1 c1, .slice A2 n2 c2, .slice A3 n3 c3] w fun e w' => e = .returned (.bool true) ∧ Ch [] w w' := by
  have hn0 : l0.length = n0 := by have := hr0.len; simpa [u64s] using this
  have hn1 : l1.length = n1 := by have := hr1.len; simpa [i64s] using this
  have hn2 : l2.length = n2 := by have := hr2.len; simpa [strs] using this
  have hn3 : l3.length = n3 := by have := hr3.len; simpa [bls] using this
  by_cases g0 : 20 < n0
  · go_enter Try.func5, Try.ntmps5
    go_wp2_with fail
    refine (known2 _).mono ?_
    rintro e w0 ⟨rfl, hc0⟩
    go_wp2_with fail
    go_ret
    exact ⟨rfl, hc0⟩
  by_cases g1 : 20 < n1
  · go_enter Try.func5, Try.ntmps5
    go_wp2_with fail
    refine (known2 _).mono ?_
    rintro e w0 ⟨rfl, hc0⟩
    go_wp2_with fail
    go_ret
    exact ⟨rfl, hc0⟩
  by_cases g2 : 20 < n2
  · go_enter Try.func5, Try.ntmps5
    go_wp2_with fail
    refine (known2 _).mono ?_
    rintro e w0 ⟨rfl, hc0⟩
    go_wp2_with fail
    go_ret
    exact ⟨rfl, hc0⟩
  by_cases g3 : 20 < n3
  · go_enter Try.func5, Try.ntmps5
    go_wp2_with fail
    refine (known2 _).mono ?_
    rintro e w0 ⟨rfl, hc0⟩
    go_wp2_with fail
    go_ret
    exact ⟨rfl, hc0⟩
  go_enter Try.func5, Try.ntmps5
  go_wp2_with fail
  refine (known2 _).mono ?_
  rintro e w0 ⟨rfl, hc0⟩
  go_wp2_with fail
  refine (new_wr _).mono ?_
  rintro e w1 ⟨p, rfl, hp1, hpb, hc1⟩
  have hs0 := hc0.size
  have hs1 := hc1.size
  have hcw1 := hc0.trans hc1 (by simp)
  go_wp2_with fail
  refine (new_wr _).mono ?_
  rintro e w2 ⟨q, rfl, hq2, hqb, hc2⟩
  have hcw2 := hcw1.trans hc2 (by simp)
  have hpl := hp1.lt
  have hT := TW.start (hp1.keep hc2 (by simp) (by simp)) hq2 hcw2 (by omega) (by omega) (by omega)
  have he0 := encN_room hq0 (by omega)
  have hq1' : ∀ x ∈ l1.map zz, x < 18446744073709551616 := by
    intro x hx
    obtain ⟨y, hy, rfl⟩ := List.mem_map.1 hx
    exact zz_lt (hq1 y hy).1 (hq1 y hy).2
  have he1 := encN_room hq1' (by rw [List.length_map]; omega)
  have hq3' : ∀ x ∈ l3.map bnum, x < 18446744073709551616 := by
    intro x hx
    obtain ⟨y, hy, rfl⟩ := List.mem_map.1 hx
    exact bnum_lt y
  have he3 := encN_room hq3' (by rw [List.length_map]; omega)
  have Q0 := Lib.hid hq0
  have Q1 := Lib.hid hq1
  clear hp1 hpb hc1 hs0 hs1 hcw1 hq2 hqb hc2 hcw2 hpl hc0 hq0 hq1 hq1' hq3'
  generalize hE0 : encs l0 = E0 at *
  generalize hE1 : encs (l1.map zz) = E1 at *
  generalize hE3 : encs (l3.map bnum) = E3 at *
  have HE0 := Lib.hid hE0
  have HE1 := Lib.hid hE1
  have HE3 := Lib.hid hE3
  clear hE0 hE1 hE3
  go_wp2_with fail
  obtain ⟨o, hw, ho, hst⟩ := hT.fst
  refine (wnum0 p o [] A0 n0 c0 l0 _ hw (hr0.nil hT.ch) Q0.out (by simp only [List.length_nil]; omega) (hT.old hr0 (Ch.refl _ _) ho)).mono ?_
  rintro e w3 ⟨rfl, h⟩
  have hT3 := hst _ _ _ (Ch.refl _ _) h
  rw [List.nil_append, HE0.out] at hT3
  clear hw ho hst h hT
  go_wp2_with fail
  obtain ⟨o, hw, ho, hst⟩ := hT3.fst
  refine (wint0 p o E0 A1 n1 c1 l1 _ hw (hr1.nil hT3.ch) Q1.out (by omega) (hT3.old hr1 (Ch.refl _ _) ho)).mono ?_
  rintro e w4 ⟨rfl, h⟩
  have hT4 := hst _ _ _ (Ch.refl _ _) h
  rw [HE1.out] at hT4
  clear hw ho hst h hT3
  go_wp2_with fail
  have hre4 := hr2.nil hT4.ch
  go_loop [11] (fun i => ∃ k : Nat, k ≤ n2 ∧ i = .int .i64 k ∧ ∀ s ∈ l2.take k, s.size ≤ 100) (fun i => n2 - (intOf i).toNat)
  case atStart => exact ⟨0, Nat.zero_le _, rfl, by simp⟩
  case round =>
    obtain ⟨k, hk, rfl, hall⟩ := hrel
    have Hall := Lib.hid hall
    clear hall
    by_cases hlt : k < n2
    · have hk' : k < l2.length := by omega
      obtain ⟨ab, ao, rfl, hx⟩ := rd_cell hre4 k hk'
      by_cases h100 : 100 < l2[k].size
      · go_wp2_with fail
        go_ret
        exact ⟨rfl, hT4.ch⟩
      · go_wp2_with fail
        go_round
        case rel =>
          refine ⟨k + 1, by omega, by go_num, ?_⟩
          rw [List.take_succ_eq_append_getElem hk']
          intro p hp
          rcases List.mem_append.1 hp with hp | hp
          · exact Hall.out p hp
          · simp at hp; subst hp; omega
        case measure => simp [intOf]; omega
    · obtain rfl : n2 = k := by omega
      have hall := Hall.out
      rw [List.take_of_length_le (by omega)] at hall
      have he2 := encT_room hall (by omega)
      have hbk := byt_len l2 hall
      have HA := Lib.hid hall
      clear Hall hall hlt hk hre4
      generalize hE2 : encTs (byt l2) = E2 at *
      have HE2 := Lib.hid hE2
      clear hE2
      go_wp2_with fail
      obtain ⟨o, hw, ho, hst⟩ := hT4.fst
      refine (wtext0 p o (E0 ++ E1) A2 n2 c2 l2 _ hw (hr2.nil hT4.ch) (by rw [List.length_append]; omega) (hT4.old hr2 (Ch.refl _ _) ho)).mono ?_
      rintro e w5 ⟨rfl, h⟩
      have hT5 := hst _ _ _ (Ch.refl _ _) h
      rw [HE2.out] at hT5
      clear hw ho hst h hT4
      go_wp2_with fail
      obtain ⟨o, hw, ho, hst⟩ := hT5.fst
      refine (wbool0 p o (E0 ++ E1 ++ E2) A3 n3 c3 l3 _ hw (hr3.nil hT5.ch) (by simp only [List.length_append]; omega) (hT5.old hr3 (Ch.refl _ _) ho)).mono ?_
      rintro e w6 ⟨rfl, h⟩
      have hT6 := hst _ _ _ (Ch.refl _ _) h
      rw [HE3.out] at hT6
      clear hw ho hst h hT5
      generalize hE : E0 ++ E1 ++ E2 ++ E3 = E at *
      have hEl : E.length ≤ 20000 := by rw [← hE]; simp only [List.length_append]; omega
      have HE := Lib.hid hE
      clear hE
      go_wp2_with fail
      go_loopw [12] (fun i wr => ∃ k : Nat, k ≤ n0 ∧ i = .int .i64 k ∧ TW w wr q p ([] ++ encs (l0.take k)) E) (fun i _ => n0 - (intOf i).toNat)
      case atStart => exact ⟨0, Nat.zero_le _, rfl, by simpa [encs] using hT6.symm⟩
      case round =>
        clear hT6
        obtain ⟨k, hk, rfl, hT⟩ := hrel
        obtain ⟨wA, hwA⟩ : ∃ W, W = wr := ⟨_, rfl⟩
        subst hwA
        by_cases hlt : k < n0
        · have hk' : k < l0.length := by omega
          obtain ⟨ab, ao, rfl, hx⟩ := rd_cell (hr0.nil hT.ch) k hk'
          have hsu := encs_take_succ l0 k hk'
          have hnw : encs [l0[k]] = encN l0[k] := encs_one _
          have hrm := encs_len (l0.take k) (fun z hz => Q0.out z (List.mem_of_mem_take hz))
          simp only [List.length_take, List.length_map] at hrm
          rw [← hnw] at hsu
          have Hsu := Lib.hid hsu
          clear hsu hnw
          have hLl : ([] ++ encs (l0.take k)).length ≤ 20000 := by simp only [List.length_append, List.length_nil]; omega
          generalize hL : [] ++ encs (l0.take k) = L at *
          have HL := Lib.hid hL
          clear hL
          obtain ⟨o, hw, ho, hst⟩ := hT.fst
          go_wp2_with fail
          refine (wnum0 q o L _ 1 1 [l0[k]] _ (hw.alloc _) (rd_one _ _ 33) (by simpa using Q0.out l0[k] (List.getElem_mem hk')) (by omega) (fun _ => hw.fresh)).mono ?_
          rintro e w9 ⟨rfl, h⟩
          have hT9 := hst _ _ _ ((Ch.refl _ _).alloc _) h
          clear hw ho hst h hT
          go_wp2_with fail
          go_roundw
          case rel => exact ⟨k + 1, by omega, by go_num, by rw [Hsu.out, ← List.append_assoc, HL.out]; exact hT9⟩
          case measure => simp [intOf]; omega
        · obtain rfl : n0 = k := by omega
          have hT9 := hT
          rw [List.take_of_length_le (by (try simp only [byt, List.length_map]); omega)] at hT9
          rw [HE0.out] at hT9
          clear hT hlt hk
          go_wp2_with fail
          go_loopw [13] (fun i wr => ∃ k : Nat, k ≤ n1 ∧ i = .int .i64 k ∧ TW w wr q p (E0 ++ encs ((l1.map zz).take k)) E) (fun i _ => n1 - (intOf i).toNat)
          case atStart => exact ⟨0, Nat.zero_le _, rfl, by simpa [encs, encTs] using hT9⟩
          case round =>
            clear hT9
            obtain ⟨k, hk, rfl, hT⟩ := hrel
            obtain ⟨wA, hwA⟩ : ∃ W, W = wr := ⟨_, rfl⟩
            subst hwA
            by_cases hlt : k < n1
            · have hk' : k < l1.length := by omega
              obtain ⟨ab, ao, rfl, hx⟩ := rd_cell (hr1.nil hT.ch) k hk'
              have hsu := encs_take_succ (l1.map zz) k (by simpa using hk')
              have hnw : encs ([l1[k]].map zz) = encN ((l1.map zz)[k]'(by simpa using hk')) := by rw [List.map_cons, List.map_nil, encs_one, List.getElem_map]
              have hrm := encs_len ((l1.map zz).take k) (fun z hz => by
                    obtain ⟨y, hy, rfl⟩ := List.mem_map.1 (List.mem_of_mem_take hz)
                    exact zz_lt (Q1.out y hy).1 (Q1.out y hy).2)
              simp only [List.length_take, List.length_map] at hrm
              rw [← hnw] at hsu
              have Hsu := Lib.hid hsu
              clear hsu hnw
              have hLl : (E0 ++ encs ((l1.map zz).take k)).length ≤ 20000 := by simp only [List.length_append, List.length_nil]; omega
              generalize hL : E0 ++ encs ((l1.map zz).take k) = L at *
              have HL := Lib.hid hL
              clear hL
              obtain ⟨o, hw, ho, hst⟩ := hT.fst
              go_wp2_with fail
              refine (wint0 q o L _ 1 1 [l1[k]] _ (hw.alloc _) (rd_one _ _ 2) (by simpa using Q1.out l1[k] (List.getElem_mem hk')) (by omega) (fun _ => hw.fresh)).mono ?_
              rintro e w9 ⟨rfl, h⟩
              have hT9 := hst _ _ _ ((Ch.refl _ _).alloc _) h
              clear hw ho hst h hT
              go_wp2_with fail
              go_roundw
              case rel => exact ⟨k + 1, by omega, by go_num, by rw [Hsu.out, ← List.append_assoc, HL.out]; exact hT9⟩
              case measure => simp [intOf]; omega
            · obtain rfl : n1 = k := by omega
              have hT9 := hT
              rw [List.take_of_length_le (by (try simp only [byt, List.length_map]); omega)] at hT9
              rw [HE1.out] at hT9
              clear hT hlt hk
              go_wp2_with fail
              go_loopw [14] (fun i wr => ∃ k : Nat, k ≤ n2 ∧ i = .int .i64 k ∧ TW w wr q p ((E0 ++ E1) ++ encTs ((byt l2).take k)) E) (fun i _ => n2 - (intOf i).toNat)
              case atStart => exact ⟨0, Nat.zero_le _, rfl, by simpa [encs, encTs] using hT9⟩
              case round =>
                clear hT9
                obtain ⟨k, hk, rfl, hT⟩ := hrel
                obtain ⟨wA, hwA⟩ : ∃ W, W = wr := ⟨_, rfl⟩
                subst hwA
                by_cases hlt : k < n2
                · have hk' : k < l2.length := by omega
                  obtain ⟨ab, ao, rfl, hx⟩ := rd_cell (hr2.nil hT.ch) k hk'
                  have hsu := encTs_take_succ (byt l2) k (by simpa [byt] using hk')
                  have hnw : encTs (byt [l2[k]]) = encT ((byt l2)[k]'(by simpa [byt] using hk')) := by simp [encTs, byt]
                  have hrm := encT_room (ss := l2.take k) (fun s hs => HA.out s (List.mem_of_mem_take hs)) (by rw [List.length_take]; omega)
                  rw [show byt (l2.take k) = (byt l2).take k from by simp [byt, List.map_take]] at hrm
                  rw [← hnw] at hsu
                  have Hsu := Lib.hid hsu
                  clear hsu hnw
                  have hLl : ((E0 ++ E1) ++ encTs ((byt l2).take k)).length ≤ 20000 := by simp only [List.length_append, List.length_nil]; omega
                  generalize hL : (E0 ++ E1) ++ encTs ((byt l2).take k) = L at *
                  have HL := Lib.hid hL
                  clear hL
                  have hbk : bulk (byt [l2[k]]) = l2[k].size := by simp [bulk, byt]
                  have hsk := HA.out l2[k] (List.getElem_mem hk')
                  have Hbk := Lib.hid hbk
                  clear hbk
                  obtain ⟨o, hw, ho, hst⟩ := hT.fst
                  go_wp2_with fail
                  refine (wtext0 q o L _ 1 1 [l2[k]] _ (hw.alloc _) (rd_one _ _ 9) (by rw [Hbk.out]; omega) (fun _ => hw.fresh)).mono ?_
                  rintro e w9 ⟨rfl, h⟩
                  have hT9 := hst _ _ _ ((Ch.refl _ _).alloc _) h
                  clear hw ho hst h hT
                  go_wp2_with fail
                  go_roundw
                  case rel => exact ⟨k + 1, by omega, by go_num, by rw [Hsu.out, ← List.append_assoc, HL.out]; exact hT9⟩
                  case measure => simp [intOf]; omega
                · obtain rfl : n2 = k := by omega
                  have hT9 := hT
                  rw [List.take_of_length_le (by (try simp only [byt, List.length_map]); omega)] at hT9
                  rw [HE2.out] at hT9
                  clear hT hlt hk
                  go_wp2_with fail
                  go_loopw [15] (fun i wr => ∃ k : Nat, k ≤ n3 ∧ i = .int .i64 k ∧ TW w wr q p ((E0 ++ E1 ++ E2) ++ encs ((l3.map bnum).take k)) E) (fun i _ => n3 - (intOf i).toNat)
                  case atStart => exact ⟨0, Nat.zero_le _, rfl, by simpa [encs, encTs] using hT9⟩
                  case round =>
                    clear hT9
                    obtain ⟨k, hk, rfl, hT⟩ := hrel
                    obtain ⟨wA, hwA⟩ : ∃ W, W = wr := ⟨_, rfl⟩
                    subst hwA
                    by_cases hlt : k < n3
                    · have hk' : k < l3.length := by omega
                      obtain ⟨ab, ao, rfl, hx⟩ := rd_cell (hr3.nil hT.ch) k hk'
                      have hsu := encs_take_succ (l3.map bnum) k (by simpa using hk')
                      have hnw : encs ([l3[k]].map bnum) = encN ((l3.map bnum)[k]'(by simpa using hk')) := by rw [List.map_cons, List.map_nil, encs_one, List.getElem_map]
                      have hrm := encs_len ((l3.map bnum).take k) (fun z hz => by
                            obtain ⟨y, hy, rfl⟩ := List.mem_map.1 (List.mem_of_mem_take hz)
                            exact bnum_lt y)
                      simp only [List.length_take, List.length_map] at hrm
                      rw [← hnw] at hsu
                      have Hsu := Lib.hid hsu
                      clear hsu hnw
                      have hLl : ((E0 ++ E1 ++ E2) ++ encs ((l3.map bnum).take k)).length ≤ 20000 := by simp only [List.length_append, List.length_nil]; omega
                      generalize hL : (E0 ++ E1 ++ E2) ++ encs ((l3.map bnum).take k) = L at *
                      have HL := Lib.hid hL
                      clear hL
                      obtain ⟨o, hw, ho, hst⟩ := hT.fst
                      go_wp2_with fail
                      refine (wbool0 q o L _ 1 1 [l3[k]] _ (hw.alloc _) (rd_one _ _ 4) (by omega) (fun _ => hw.fresh)).mono ?_
                      rintro e w9 ⟨rfl, h⟩
                      have hT9 := hst _ _ _ ((Ch.refl _ _).alloc _) h
                      clear hw ho hst h hT
                      go_wp2_with fail
                      go_roundw
                      case rel => exact ⟨k + 1, by omega, by go_num, by rw [Hsu.out, ← List.append_assoc, HL.out]; exact hT9⟩
                      case measure => simp [intOf]; omega
                    · obtain rfl : n3 = k := by omega
                      have hT9 := hT
                      rw [List.take_of_length_le (by (try simp only [byt, List.length_map]); omega)] at hT9
                      rw [HE3.out] at hT9
                      clear hT hlt hk
                      rw [HE.out] at hT9
                      go_wp2_with fail
                      obtain ⟨o2, o1, hT9⟩ := hT9
                      have hS := WB.mk (w := w) hT9.wq hT9.wp hT9.ch (H := []) (by simp)
                      have hS := hS.drew
                      clear hT9
                      have hq1 : binOp .eql 9 (.string (str E)) (.string (str E)) = pure (.bool true) := eql_str_yes _ _
                      refine dr_begin (by kernel_rfl) ?_
                      have hT : True := trivial
                      refine dr_take 0 (some 114) (v := ?_) rfl rfl (by kernel_rfl) (by kernel_rfl) (by kernel_rfl) (fun _ _ _ h => h) rfl hT (fun W _ => ?_) ?_
                      rotate_left
                      · (go_simp; try with_reducible rfl)
                      try simp only [Act.put, List.setIfInBounds_toArray, List.set_cons_zero, List.set_cons_succ]
                      refine dr_take 3 (some 117) (v := ?_) rfl rfl (by kernel_rfl) (by kernel_rfl) (by kernel_rfl) (fun _ _ _ h => h) rfl hT (fun W _ => ?_) ?_
                      rotate_left
                      · (go_simp; try with_reducible rfl)
                      try simp only [Act.put, List.setIfInBounds_toArray, List.set_cons_zero, List.set_cons_succ]
                      refine dr_step 1 rfl (by kernel_rfl) rfl (fun K hK => ?_)
                      go_simp
                      refine (hS.bytesP (by omega)).mono ?_
                      rintro e v1 ⟨A5, c5, rfl, hS⟩
                      have hT : True := trivial
                      refine hK.out _ _ hT ?_
                      clear hK K
                      try simp only [Act.put, List.setIfInBounds_toArray, List.set_cons_zero, List.set_cons_succ]
                      refine dr_more (fun W => (convert 28 9 (.slice A5 (E).length c5)).run Try.prog W = .ok (.string (str (E))) W) ?_
                      have hT : (True ∧ (convert 28 9 (.slice A5 (E).length c5)).run Try.prog v1 = .ok (.string (str (E))) v1) := ⟨trivial, hS.conv (A5, _, c5, E) (by simp)⟩
                      refine dr_take 2 (some 116) (v := ?_) rfl rfl (by kernel_rfl) (by kernel_rfl) (by kernel_rfl) (fun _ _ _ h => h) rfl hT (fun W hW => ?_) ?_
                      rotate_left
                      · (have h1 := hW; simp only [true_and] at h1; go_simp; try with_reducible rfl)
                      try simp only [Act.put, List.setIfInBounds_toArray, List.set_cons_zero, List.set_cons_succ]
                      refine dr_step 4 rfl (by kernel_rfl) rfl (fun K hK => ?_)
                      go_simp
                      refine (hS.bytesQ (by omega)).mono ?_
                      rintro e v2 ⟨A6, c6, rfl, hS⟩
                      have hT : (True ∧ (convert 28 9 (.slice A5 (E).length c5)).run Try.prog v2 = .ok (.string (str (E))) v2) := ⟨trivial, hS.conv (A5, _, c5, E) (by simp)⟩
                      refine hK.out _ _ hT ?_
                      clear hK K
                      try simp only [Act.put, List.setIfInBounds_toArray, List.set_cons_zero, List.set_cons_succ]
                      refine dr_more (fun W => (convert 28 9 (.slice A6 (E).length c6)).run Try.prog W = .ok (.string (str (E))) W) ?_
                      have hT : ((True ∧ (convert 28 9 (.slice A5 (E).length c5)).run Try.prog v2 = .ok (.string (str (E))) v2) ∧ (convert 28 9 (.slice A6 (E).length c6)).run Try.prog v2 = .ok (.string (str (E))) v2) := ⟨⟨trivial, hS.conv (A5, _, c5, E) (by simp)⟩, hS.conv (A6, _, c6, E) (by simp)⟩
                      refine dr_take 5 (some 119) (v := ?_) rfl rfl (by kernel_rfl) (by kernel_rfl) (by kernel_rfl) (fun _ _ _ h => h) rfl hT (fun W hW => ?_) ?_
                      rotate_left
                      · (have h1 := hW; simp only [true_and] at h1; go_simp; try with_reducible rfl)
                      try simp only [Act.put, List.setIfInBounds_toArray, List.set_cons_zero, List.set_cons_succ]
                      refine dr_take 6 (some 120) (v := ?_) rfl rfl (by kernel_rfl) (by kernel_rfl) (by kernel_rfl) (fun _ _ _ h => h) rfl hT (fun W _ => ?_) ?_
                      rotate_left
                      · (go_simp; try with_reducible rfl)
                      try simp only [Act.put, List.setIfInBounds_toArray, List.set_cons_zero, List.set_cons_succ]
                      refine dr_take 7 (some 8) (v := ?_) rfl rfl (by kernel_rfl) (by kernel_rfl) (by kernel_rfl) (fun _ _ _ h => h) rfl hT (fun W _ => ?_) ?_
                      rotate_left
                      · (go_simp; try with_reducible rfl)
                      try simp only [Act.put, List.setIfInBounds_toArray, List.set_cons_zero, List.set_cons_succ]
                      refine dr_done (by kernel_rfl) ?_
                      go_wp2
                      go_ret
                      exact ⟨rfl, hS.ch⟩

end Go.Proofs.Ytbkncfedahifkaa
