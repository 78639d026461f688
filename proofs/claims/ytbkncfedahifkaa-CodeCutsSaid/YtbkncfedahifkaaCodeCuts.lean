/-
  CodeCuts: what is written, cut off anywhere, is told up to there, and fails then, for good.
-/
import Derived.Test.YtbkncfedahifkaaCuts
set_option linter.unusedVariables false
set_option linter.unusedSimpArgs false
namespace Go.Proofs.Ytbkncfedahifkaa
open Go.RowKit

/-- Where the texts end. -/
def endsV (l : List ByteArray) (k : Nat) : List Value := (List.range k).map fun j => Value.int .i64 (preL l (j + 1) : Int)
theorem endsV_succ (l : List ByteArray) (k : Nat) : endsV l (k + 1) = endsV l k ++ [.int .i64 (preL l (k + 1) : Int)] := by
  simp [endsV, List.range_succ]
theorem endsV_len (l : List ByteArray) (k : Nat) : (endsV l k).length = k := by simp [endsV]
theorem preL_room (l : List ByteArray) (k : Nat) (h : ∀ s ∈ l.take k, s.size ≤ 200) : preL l k ≤ 210 * k := by
  induction k with
  | zero => simp [preL, encTs, byt]
  | succ k ih =>
    have h1 := ih (fun s hs => h s (by
      have : l.take k = (l.take (k + 1)).take k := by rw [List.take_take, Nat.min_eq_left (by omega)]
      rw [this] at hs
      exact List.mem_of_mem_take hs))
    by_cases hk : k < l.length
    · rw [preL_succ l k hk]
      have h2 := h l[k] (by rw [List.take_succ_eq_append_getElem hk]; exact List.mem_append_right _ (List.mem_singleton.2 rfl))
      have h3 := encT_len l[k].data.toList (by show l[k].size < _; omega)
      have e : l[k].data.toList.length = l[k].size := rfl
      omega
    · have : preL l (k + 1) = preL l k := by rw [preL, preL, List.take_of_length_le (by omega), List.take_of_length_le (by omega)]
      omega
theorem preL_mono (l : List ByteArray) (j : Nat) (h : j < l.length) : 0 < preL l (j + 1) := by
  rw [preL_succ l j h]
  have : 0 < (encT l[j].data.toList).length := by
    unfold encT
    rw [List.length_append]
    have := encN_pos l[j].data.toList.length
    omega
  omega
theorem preL_all (l : List ByteArray) : preL l l.length = (encTs (byt l)).length := by rw [preL, List.take_length]

set_option maxRecDepth 100000 in
set_option maxHeartbeats 4000000 in
theorem code_cuts (A : Option Addr) (n c : Nat) (l : List ByteArray) (at_ : Int) (w : World) (hr : Rd 1 w A n c (strs l)) (ha0 : -9223372036854775808 ≤ at_) (ha1 : at_ ≤ 9223372036854775807) :
    Calls Try.prog 8 #[.slice A n c, .int .i64 at_] w fun e w' => e = .returned (.bool true) ∧ Ch [] w w' := by
  have hn : l.length = n := by have := hr.len; simpa [strs] using this
  by_cases h0 : n = 0
  · subst h0
    go_enter Try.func8, Try.ntmps8
    go_wp2_with fail
    refine (known2 _).mono ?_
    rintro e w0 ⟨rfl, hc0⟩
    go_wp2_with fail
    go_ret
    exact ⟨rfl, hc0⟩
  have hz : ((n : Int) == 0) = false := by simp; omega
  by_cases h10 : 10 < n
  · go_enter Try.func8, Try.ntmps8
    go_wp2_with fail
    refine (known2 _).mono ?_
    rintro e w0 ⟨rfl, hc0⟩
    go_wp2_with fail
    go_ret
    exact ⟨rfl, hc0⟩
  have Ha := Lib.hid (And.intro ha0 ha1)
  clear ha0 ha1
  go_enter Try.func8, Try.ntmps8
  go_wp2_with fail
  refine (known2 _).mono ?_
  rintro e w0 ⟨rfl, hc0⟩
  go_wp2_with fail
  refine (new_wr _).mono ?_
  rintro e w1 ⟨b, rfl, hw1, hb1, hc1⟩
  have hs0 := hc0.size
  have hcw1 := hc0.trans hc1 (by simp)
  have hcw := CE.start hw1 hcw1 (by omega)
  clear hw1 hb1 hc1 hcw1 hs0 hc0
  go_wp2_with fail
  go_loopw [6, 7] (fun v i wr => ∃ k : Nat, k ≤ n ∧ i = .int .i64 k ∧ CE w wr b v (encTs (byt (l.take k))) (endsV l k) ∧ ∀ s ∈ l.take k, s.size ≤ 200) (fun _ i _ => n - (intOf i).toNat)
  case atStart => exact ⟨0, Nat.zero_le _, rfl, by simpa [encTs, byt, endsV] using hcw, by simp⟩
  case round =>
    clear hcw
    obtain ⟨k, hk, rfl, hcw, hall⟩ := hrel
    obtain ⟨wA, hwA⟩ : ∃ W, W = wr := ⟨_, rfl⟩
    subst hwA
    have hroom := preL_room l k hall
    rw [preL] at hroom
    by_cases hlt : k < n
    · have hk' : k < l.length := by omega
      obtain ⟨ab, ao, rfl, hx⟩ := rd_cell' (hr.nil hcw.ch) k hk'
      by_cases h200 : 200 < l[k].size
      · go_wp2_with fail
        go_ret
        exact ⟨rfl, hcw.ch⟩
      · have hall2 : ∀ s ∈ l.take (k + 1), s.size ≤ 200 := by
          rw [List.take_succ_eq_append_getElem hk']
          intro p hp
          rcases List.mem_append.1 hp with hp | hp
          · exact hall p hp
          · simp at hp; subst hp; omega
        have Hall := Lib.hid hall2
        clear hall hall2
        have hroom2 := preL_room l (k + 1) Hall.out
        have hsu := encTs_snoc l k hk'
        have hpr : preL l (k + 1) = (encTs (byt (l.take (k + 1)))).length := rfl
        have hesu := endsV_succ l k
        have helen := endsV_len l k
        have Hesu := Lib.hid hesu
        have Helen := Lib.hid helen
        clear hesu helen
        generalize hp : l[k] = t at *
        generalize hE : endsV l k = E at *
        generalize hL : encTs (byt (l.take k)) = L at *
        generalize hL2 : encTs (byt (l.take (k + 1))) = L2 at *
        generalize hP : preL l (k + 1) = P at *
        have Hsu := Lib.hid hsu
        have Hpr := Lib.hid hpr
        have HL2 := Lib.hid hL2
        clear hp hE hL hL2 hP hsu hpr
        have hbk : bulk (byt [t]) = t.size := by simp [bulk, byt]
        have Hbk := Lib.hid hbk
        clear hbk
        obtain ⟨o, hwr, hwst⟩ := hcw.wst
        go_wp2_with fail
        refine (wtext b o L _ 1 1 [t] _ (hwr.alloc _) (rd_one wA _ 9) (by rw [Hbk.out]; omega) hwr.fresh).mono ?_
        rintro e w3 ⟨rfl, hst⟩
        have hcw3 := hwst _ _ _ ((Ch.refl _ _).alloc _) hst
        have et : encTs (byt [t]) = encT t.data.toList := by simp [encTs, byt]
        rw [et, ← Hsu.out] at hcw3
        clear hst hwst hwr et hcw
        obtain ⟨o3, hwr3, -⟩ := hcw3.wst
        go_wp2_with fail
        refine (wbytes b o3 L2 _ hwr3 (by have := Hpr.out; omega)).mono ?_
        rintro e w4 ⟨v4, rfl, ⟨A4, c4, rfl, hown4⟩, hc4⟩
        have hcw4 := hcw3.nil hc4
        have hown := hcw4.own
        have hs4 := hcw4.ch.size
        clear hcw3 hwr3 hown4 hc4
        go_wp2_with (at_builtin; refine app_one rfl (.tmp 43) (.tmp 47) 58 3 (.int .i64 0) 8 rfl Try.underlying58 Try.info3 rfl _ _ _ _ rfl rfl rfl hown hs4 (by rw [Helen.out]; omega) (by rw [Helen.out]; unfold maxLen; omega) ?_; intro v1 w1 h1 hg hat)
        go_roundw
        case rel =>
          have hcw5 := hcw4.grow rfl h1 hg hat
          refine ⟨k + 1, by omega, by go_num, ?_, Hall.out⟩
          rw [Hesu.out, Hpr.out, HL2.out]
          exact hcw5
        case measure => simp [intOf]; omega
    · obtain rfl : n = k := by omega
      rw [List.take_of_length_le (by omega)] at hcw hroom hall
      have hE0 := preL_mono l (n - 1) (by omega)
      rw [show n - 1 + 1 = l.length from by omega, preL_all] at hE0
      have hall' := preL_all l
      have howne := hcw.own
      rw [endsV_len] at howne
      obtain ⟨Ae, ce, rfl⟩ := own_slice howne
      obtain ⟨o, hwr, -⟩ := hcw.wst
      clear hlt hk
      generalize hL : encTs (byt l) = L at *
      have HL := Lib.hid hL
      have Hpl := Lib.hid hall'
      have Hall := Lib.hid hall
      clear hL hall' hall
      have hLz : ((L.length : Int) == 0) = false := by rw [beq_eq_false_iff_ne]; omega
      go_wp2_with fail
      refine (wbytes b o L _ hwr (by omega)).mono ?_
      rintro e w4 ⟨v4, rfl, ⟨A4, c4, rfl, hown4⟩, hc4⟩
      have hcw4 := hcw.nil hc4
      have hrd4 := own_rd hown4
      have hEr : Rd 1 w4 Ae n ce (endsV l n) := (own_rd howne).nil hc4
      clear hwr hown4 hc4 hcw howne
      go_wp2_with fail
      refine (place_any at_ L.length _ Ha.out.1 Ha.out.2 (by omega) (by omega)).mono ?_
      rintro e w5 ⟨rfl, rfl⟩
      have hk0 := Int.emod_nonneg at_ (show (L.length : Int) ≠ 0 by omega)
      have hk1 := Int.emod_lt_of_pos at_ (show (0 : Int) < L.length by omega)
      obtain ⟨K, hK⟩ : ∃ K : Nat, at_ % (L.length : Int) = K := ⟨(at_ % (L.length : Int)).toNat, by omega⟩
      rw [hK] at hk0 hk1 ⊢
      clear hK Ha
      have hrdK : RdB w4 A4 K c4 (L.take K) := by
        have := hrd4.take K (by omega)
        rwa [Nat.mul_one, bvs_take] at this
      have hc4 := hrd4.cap
      have hm4 := hrd4.max
      clear hrd4
      go_wp2_with fail
      refine (new_reader A4 K c4 (L.take K) w4 hrdK (by omega)).mono ?_
      rintro e w5 ⟨r, g, rfl, hrr, hrb, hrg, hc5⟩
      have hcw5 := hcw4.nil hc5
      have hSt : cutSt l K 0 = some (L.take K) := by
        rw [cutSt, if_pos (by simp [preL, encTs, byt])]
        simp [preL, HL.out]
        simp [encTs, byt]
      have hS : RS w4 w5 r g (cutSt l K 0) := by rw [hSt]; exact ⟨hrr, hc5, by omega⟩
      have hcwch := hcw4.ch
      clear hrr hrb hrg hc5 hSt hrdK hcw5 hcw4
      go_wp2_with fail
      go_loopw [11] (fun i wr => ∃ k : Nat, k ≤ n ∧ i = .int .i64 k ∧ RS w4 wr r g (cutSt l K k)) (fun i _ => n - (intOf i).toNat)
      case atStart => exact ⟨0, Nat.zero_le _, rfl, hS⟩
      case round =>
        clear hS
        obtain ⟨k, hk, rfl, hS⟩ := hrel
        obtain ⟨wB, hwB⟩ : ∃ W, W = wr := ⟨_, rfl⟩
        subst hwB
        by_cases hlt : k < n
        · have hk' : k < l.length := by omega
          have hsz := Hall.out l[k] (List.getElem_mem hk')
          have hnx := cut_next l K k hk' (by omega)
          have HT := hS.textA
          by_cases hle : preL l (k + 1) ≤ K
          · have hy := cut_yes l K k hk' (by omega) hle
            rw [hnx, hy] at HT
            simp only [ans] at HT
            go_wp2_with fail
            refine HT.mono ?_
            rintro e w6 ⟨rfl, hS6⟩
            obtain ⟨ab, ao, rfl, hx⟩ := rd_cell' (hr.nil (hcwch.trans hS6.ch (by simp))) k hk'
            obtain ⟨eb, eo, rfl, he⟩ := rd_cell' (f := fun j : Nat => Value.int .i64 (preL l (j + 1) : Int)) (hEr.nil hS6.ch) k (by simpa using hlt)
            simp only [List.getElem_range] at he
            generalize ht : l[k] = t at *
            generalize hP : preL l (k + 1) = P at *
            clear hnx hy HT hP
            have hq : binOp .neq 9 (.string t) (.string t) = pure (.bool false) := by rw [binOp_string_neq]; simp
            go_wp2_with fail
            go_roundw
            case rel => exact ⟨k + 1, by omega, by go_num, hS6⟩
            case measure => simp [intOf]; omega
          · have hy := cut_no l K k hk' (by omega) hle
            rw [hnx, hy] at HT
            simp only [ans] at HT
            go_wp2_with fail
            refine HT.mono ?_
            rintro e w6 ⟨rfl, hS6⟩
            obtain ⟨ab, ao, rfl, hx⟩ := rd_cell' (hr.nil (hcwch.trans hS6.ch (by simp))) k hk'
            obtain ⟨eb, eo, rfl, he⟩ := rd_cell' (f := fun j : Nat => Value.int .i64 (preL l (j + 1) : Int)) (hEr.nil hS6.ch) k (by simpa using hlt)
            simp only [List.getElem_range] at he
            generalize ht : l[k] = t at *
            generalize hP : preL l (k + 1) = P at *
            clear hnx hy HT hP
            have hq : binOp .neq 9 (.string ⟨#[]⟩) (.string ⟨#[]⟩) = pure (.bool false) := by rw [binOp_string_neq]; simp
            go_wp2_with fail
            go_roundw
            case rel => exact ⟨k + 1, by omega, by go_num, hS6⟩
            case measure => simp [intOf]; omega
        · obtain rfl : n = k := by omega
          have hno : cutSt l K n = none := by
            rw [cutSt, if_neg]
            have := Hpl.out
            rw [hn] at this
            omega
          rw [hno] at hS
          clear hno hlt hk
          have hD := hS.done
          have hnone : (none : Option (List UInt8)).bind rNum = none := rfl
          go_wp2_with fail
          refine hS.done.mono ?_
          rintro e w6 ⟨rfl, rfl⟩
          have e8 : doneV none = 20 := rfl
          rw [e8]
          clear e8
          go_wp2_with fail
          refine hS.numA.mono ?_
          rintro e w7 ⟨rfl, hS7⟩
          have e9 : ans (.int .u64 0) ((none : Option (List UInt8)).bind rNum) = .int .u64 0 := rfl
          rw [e9]
          clear e9
          go_wp2_with fail
          refine hS7.intA.mono ?_
          rintro e w8 ⟨rfl, hS8⟩
          have e9 : ans (.int .i64 0) (((none : Option (List UInt8)).bind rNum).map (·.2) |>.bind rInt) = .int .i64 0 := rfl
          rw [e9]
          clear e9
          go_wp2_with fail
          refine hS8.boolA.mono ?_
          rintro e w9 ⟨rfl, hS9⟩
          have e9 : ans (.bool false) ((((none : Option (List UInt8)).bind rNum).map (·.2) |>.bind rInt).map (·.2) |>.bind rBool) = .bool false := rfl
          rw [e9]
          clear e9
          go_wp2_with fail
          go_ret
          exact ⟨rfl, hcwch.trans hS9.ch (by simp)⟩

end Go.Proofs.Ytbkncfedahifkaa
