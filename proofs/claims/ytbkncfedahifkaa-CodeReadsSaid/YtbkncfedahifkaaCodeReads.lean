/-
  CodeReads: any bytes, read in any way, are told as the document says, up to where they can't be read, and nothing behind it.
-/
import Derived.Test.YtbkncfedahifkaaRefRd2
import Derived.Test.YtbkncfedahifkaaCodeBack
set_option linter.unusedVariables false
set_option linter.unusedSimpArgs false
namespace Go.Proofs.Ytbkncfedahifkaa
open Go.RowKit

/-- x[:len(x):len(x)]. -/
theorem full_cut {P : Program} (t e : TypeId) {i : TypeInfo} (ht : P.underlying t = some (.slice e)) (hi : P.info? e = some i) (hsz : i.size = 1) (A : Option Addr) (n c : Nat) (hc : n ≤ c) :
    ∃ A' : Option Addr, (∀ W : World, (Instr.slice t (.slice A n c) none (some (.int .i64 (n : Int))) (some (.int .i64 (n : Int)))).run P W = .ok (.slice A' n n) W) ∧
      (∀ (w : World) (xs : List Value), Rd 1 w A n c xs → Rd 1 w A' n n xs) := by
  refine ⟨if n = 0 then A else A.map (·.add 0), fun W => ?_, fun w xs h => ?_⟩
  · have hel : P.elem t = e := by simp [Program.elem, ht]
    have hu : P.underlying t = some (.slice (P.elem t)) := by rw [hel]; exact ht
    rw [run_slice_hm W t A n c hu .i64 .i64 (n : Int) (n : Int) (by omega) (Int.le_refl _) (by omega), hel]
    simp [sizeOf, typeInfo, hi, hsz, sliced, Result.andThen]
  · refine ⟨h.len, Nat.le_refl _, by have := h.cap; have := h.max; omega, fun hn => ?_⟩
    obtain ⟨b, o, rfl, hcell⟩ := h.cells hn
    rw [if_neg (by omega)]
    exact ⟨b, o, by simp [Addr.add_lit], hcell⟩

/-- Bytes that are read, whosever they are. -/
def BR (w cur : World) (v : Value) (L : List UInt8) : Prop := ∃ A n c, v = .slice A n c ∧ RdB cur A n c L ∧ Ch [] w cur
theorem BR.put {w cur w' : World} {v : Value} {M : List UInt8} (hc : Ch [] w cur) (h : SlSt cur none M w' v) : BR w w' v M := by
  obtain ⟨o', h1, h2, h3, h4⟩ := h
  obtain ⟨A, c, rfl⟩ := own_slice h1
  exact ⟨A, _, c, rfl, own_rd h1, hc.trans h4 (by simp)⟩

/-- The reader and the reference's, side by side. -/
structure RR2 (w cur : World) (r g m q : Nat) (st st' : Option (List UInt8)) : Prop where
  rd : IsRd cur r g st
  rr : IsRR cur m q st'
  ch : Ch [] w cur
  hr : w.heap.size ≤ r
  hm : w.heap.size ≤ m
  rm : r ≠ m
  gm : g ≠ m
  qr : q ≠ r
section
variable {w cur : World} {r g m q : Nat} {st st' : Option (List UInt8)}
theorem RR2.drew (h : RR2 w cur r g m q st st') : RR2 w cur.drew r g m q st st' :=
  { h with rd := h.rd.nil (Ch.refl _ _).drew, rr := h.rr.keep (F := []) (Ch.refl _ _).drew (by simp) (by simp), ch := h.ch.drew }
theorem RR2.a {w' : World} {st2 : Option (List UInt8)} (h : RR2 w cur r g m q st st') (h1 : IsRd w' r g st2) (hc : Ch [r] cur w') : RR2 w w' r g m q st2 st' :=
  { h with rd := h1, rr := h.rr.keep hc (by simpa using h.rm.symm) (by simpa using h.qr), ch := h.ch.trans hc (by simpa using h.hr) }
theorem RR2.b {w' : World} {st2 : Option (List UInt8)} (h : RR2 w cur r g m q st st') (h1 : IsRR w' m q st2) (hc : Ch [m] cur w') : RR2 w w' r g m q st st2 :=
  { h with rr := h1, rd := h.rd.keep hc (by simpa using h.rm) (by simpa using h.gm), ch := h.ch.trans hc (by simpa using h.hm) }
theorem RR2.num (h : RR2 w cur r g m q st st') : Calls Try.prog 33 #[.pointer (some ⟨r, 0, none⟩)] cur fun e w' => e = .returned (ans (.int .u64 0) (st.bind rNum)) ∧ RR2 w w' r g m q ((st.bind rNum).map (·.2)) st' :=
  (rnum r g st cur h.rd).mono fun e w' ⟨he, h1, h2⟩ => ⟨he, h.a h1 h2⟩
theorem RR2.int (h : RR2 w cur r g m q st st') : Calls Try.prog 23 #[.pointer (some ⟨r, 0, none⟩)] cur fun e w' => e = .returned (ans (.int .i64 0) (st.bind rInt)) ∧ RR2 w w' r g m q ((st.bind rInt).map (·.2)) st' :=
  (rint r g st cur h.rd).mono fun e w' ⟨he, h1, h2⟩ => ⟨he, h.a h1 h2⟩
theorem RR2.text (h : RR2 w cur r g m q st st') : Calls Try.prog 36 #[.pointer (some ⟨r, 0, none⟩)] cur fun e w' => e = .returned (ans (.string ⟨#[]⟩) (st.bind rText)) ∧ RR2 w w' r g m q ((st.bind rText).map (·.2)) st' :=
  (rtext r g st cur h.rd).mono fun e w' ⟨he, h1, h2⟩ => ⟨he, h.a h1 h2⟩
theorem RR2.bool (h : RR2 w cur r g m q st st') : Calls Try.prog 38 #[.pointer (some ⟨r, 0, none⟩)] cur fun e w' => e = .returned (ans (.bool false) (st.bind rBool)) ∧ RR2 w w' r g m q ((st.bind rBool).map (·.2)) st' :=
  (rbool r g st cur h.rd).mono fun e w' ⟨he, h1, h2⟩ => ⟨he, h.a h1 h2⟩
theorem RR2.num' (h : RR2 w cur r g m q st st') : Calls Try.prog 34 #[.pointer (some ⟨m, 0, none⟩)] cur fun e w' => e = .returned (ans (.int .u64 0) (st'.bind rNum)) ∧ RR2 w w' r g m q st ((st'.bind rNum).map (·.2)) :=
  (rrnum m q st' cur h.rr).mono fun e w' ⟨he, h1, h2⟩ => ⟨he, h.b h1 h2⟩
theorem RR2.int' (h : RR2 w cur r g m q st st') : Calls Try.prog 35 #[.pointer (some ⟨m, 0, none⟩)] cur fun e w' => e = .returned (ans (.int .i64 0) (st'.bind rInt)) ∧ RR2 w w' r g m q st ((st'.bind rInt).map (·.2)) :=
  (whole_any m q st' cur h.rr).mono fun e w' ⟨he, h1, h2⟩ => ⟨he, h.b h1 h2⟩
theorem RR2.text' (h : RR2 w cur r g m q st st') : Calls Try.prog 37 #[.pointer (some ⟨m, 0, none⟩)] cur fun e w' => e = .returned (ans (.string ⟨#[]⟩) (st'.bind rText)) ∧ RR2 w w' r g m q st ((st'.bind rText).map (·.2)) :=
  (rrtext m q st' cur h.rr).mono fun e w' ⟨he, h1, h2⟩ => ⟨he, h.b h1 h2⟩
theorem RR2.bool' (h : RR2 w cur r g m q st st') : Calls Try.prog 39 #[.pointer (some ⟨m, 0, none⟩)] cur fun e w' => e = .returned (ans (.bool false) (st'.bind rBool)) ∧ RR2 w w' r g m q st ((st'.bind rBool).map (·.2)) :=
  (rrbool m q st' cur h.rr).mono fun e w' ⟨he, h1, h2⟩ => ⟨he, h.b h1 h2⟩
theorem RR2.done (h : RR2 w cur r g m q st st') : Calls Try.prog 24 #[.pointer (some ⟨r, 0, none⟩)] cur fun e w' => e = .returned (.int .i64 (doneV st)) ∧ cur = w' := rdone r g st cur h.rd
theorem ans_num (st : Option (List UInt8)) : ∃ x : Nat, ans (.int .u64 0) (st.bind rNum) = .int .u64 (x : Int) := by
  cases h : st.bind rNum with
  | none => exact ⟨0, rfl⟩
  | some p =>
    obtain ⟨l, rfl, h1⟩ := Option.bind_eq_some_iff.1 h
    obtain ⟨v, r⟩ := p
    obtain ⟨x, rfl⟩ := rNum_shape h1
    exact ⟨x, rfl⟩
theorem ans_int (st : Option (List UInt8)) : ∃ x : Int, ans (.int .i64 0) (st.bind rInt) = .int .i64 x := by
  cases h : st.bind rInt with
  | none => exact ⟨0, rfl⟩
  | some p =>
    obtain ⟨l, rfl, h1⟩ := Option.bind_eq_some_iff.1 h
    obtain ⟨v, r⟩ := p
    obtain ⟨x, rfl⟩ := rInt_shape h1
    exact ⟨x, rfl⟩
theorem ans_text (st : Option (List UInt8)) : ∃ x : ByteArray, ans (.string ⟨#[]⟩) (st.bind rText) = .string x := by
  cases h : st.bind rText with
  | none => exact ⟨_, rfl⟩
  | some p =>
    obtain ⟨l, rfl, h1⟩ := Option.bind_eq_some_iff.1 h
    obtain ⟨v, r⟩ := p
    obtain ⟨x, rfl⟩ := rText_shape h1
    exact ⟨x, rfl⟩
theorem ans_bool (st : Option (List UInt8)) : ∃ x : Bool, ans (.bool false) (st.bind rBool) = .bool x := by
  cases h : st.bind rBool with
  | none => exact ⟨_, rfl⟩
  | some p =>
    obtain ⟨l, rfl, h1⟩ := Option.bind_eq_some_iff.1 h
    obtain ⟨v, r⟩ := p
    obtain ⟨x, rfl⟩ := rBool_shape h1
    exact ⟨x, rfl⟩
end

set_option maxRecDepth 100000 in
set_option maxHeartbeats 4000000 in
theorem code_reads (A0 : Option Addr) (n0 c0 : Nat) (l0 : List UInt8) (A1 : Option Addr) (n1 c1 : Nat) (l1 : List PartL) (A2 : Option Addr) (n2 c2 : Nat) (l2 : List UInt8) (w : World)
    (hr0 : RdB w A0 n0 c0 l0) (hr1 : Rd 3 w A1 n1 c1 (partCells l1)) (hr2 : RdB w A2 n2 c2 l2) (hok : ∀ p ∈ l1, p.ok) :
    Calls Try.prog 6 #[.slice A0 n0 c0, .slice A1 n1 c1, .slice A2 n2 c2] w fun e w' => e = .returned (.bool true) ∧ Ch [] w w' := by
  have hn0 : l0.length = n0 := hr0.length
  have hn1 : l1.length = n1 := by have := hr1.len; rw [partCells_length] at this; omega
  have hn2 : l2.length = n2 := hr2.length
  by_cases g0 : 500 < n0
  · go_enter Try.func6, Try.ntmps6
    go_wp2_with fail
    refine (known2 _).mono ?_
    rintro e w0 ⟨rfl, hc0⟩
    go_wp2_with fail
    go_ret
    exact ⟨rfl, hc0⟩
  by_cases g2 : 30 < n2
  · go_enter Try.func6, Try.ntmps6
    go_wp2_with fail
    refine (known2 _).mono ?_
    rintro e w0 ⟨rfl, hc0⟩
    go_wp2_with fail
    go_ret
    exact ⟨rfl, hc0⟩
  go_enter Try.func6, Try.ntmps6
  go_wp2_with fail
  refine (known2 _).mono ?_
  rintro e w0 ⟨rfl, hc0⟩
  go_wp2_with fail
  refine (light_any A1 n1 c1 l1 _ (hr1.nil hc0)).mono ?_
  rintro e w1 ⟨rfl, rfl⟩
  cases hL : lightB l1
  · go_wp2_with fail
    go_ret
    exact ⟨rfl, hc0⟩
  · obtain ⟨h12, h100⟩ := lightB_iff hL
    clear hL
    have hb0 : BR w w0 (.slice A0 n0 c0) l0 := ⟨A0, n0, c0, rfl, hr0.nil hc0, hc0⟩
    have Hok := Lib.hid hok
    have H100 := Lib.hid h100
    clear hc0 hok h100
    go_wp2_with fail
    go_loopw [0, 7] (fun v i wr => ∃ k : Nat, k ≤ n1 ∧ i = .int .i64 k ∧ BR w wr v (l0 ++ partBytes (l1.take k))) (fun _ i _ => n1 - (intOf i).toNat)
    case atStart => exact ⟨0, Nat.zero_le _, rfl, by simpa [partBytes] using hb0⟩
    case round =>
      clear hb0
      obtain ⟨k, hk, rfl, ⟨A, n, c, rfl, hrd, hch⟩⟩ := hrel
      obtain ⟨wA, hwA⟩ : ∃ W, W = wr := ⟨_, rfl⟩
      subst hwA
      have hlen : (partBytes (l1.take k)).length ≤ 2000 := by
        have := partBytes_len (l1.take k) (fun p hp => ⟨Hok.out p (List.mem_of_mem_take hp), H100.out p (List.mem_of_mem_take hp)⟩)
        rw [List.length_take] at this
        omega
      have hnl := hrd.length
      rw [List.length_append] at hnl
      by_cases hlt : k < n1
      · have hk' : k < l1.length := by omega
        obtain ⟨ab, ao, rfl, hx0, hx1, hx2⟩ := part_cells (hr1.nil hch) k hk'
        have hcell : ∀ W, Ch [] w W → W.cell? ⟨ab, ao + k * 3, none⟩ = some (.int .u8 (l1[k].what : Int)) ∧ W.cell? ⟨ab, ao + k * 3 + 1, none⟩ = some (.int .u64 (l1[k].n : Int)) ∧ W.cell? ⟨ab, ao + k * 3 + 2, none⟩ = some (.string l1[k].t) := by
          intro W hW
          obtain ⟨ab', ao', e, h⟩ := part_cells (hr1.nil hW) k hk'
          injection e with e
          injection e with e1 e2
          subst e1 e2
          exact h
        have hpk := Hok.out l1[k] (List.getElem_mem hk')
        have ht := H100.out l1[k] (List.getElem_mem hk')
        have hsu := partBytes_succ l1 k hk'
        generalize hp : l1[k] = p at *
        obtain ⟨what, num, t⟩ := p
        obtain ⟨hw8, hn64⟩ := hpk
        simp only at hw8 hn64 ht hx0 hx1 hx2 hcell
        have Hcell := Lib.hid hcell
        have Hsu := Lib.hid hsu
        clear hp hcell hsu
        generalize hL : l0 ++ partBytes (l1.take k) = L at *
        have HL := Lib.hid hL
        clear hL
        obtain ⟨i0, hi0, hsz0⟩ := Option.map_eq_some_iff.1 Try.info5s
        obtain ⟨A', hcut, hrd'⟩ := full_cut (P := Try.prog) 28 5 Try.underlying28 hi0 hsz0 A n c hrd.cap
        have hrdf := hrd' wA _ hrd
        have hLn := hrd.length
        have hcd : Ch [] w wA.drew := hch.drew
        have hbsl : BSl wA.drew (.slice A' n n) none L := .inr ⟨rfl, A', by rw [hLn], by rw [hLn]; exact hrdf.keep (F := []) (Ch.refl _ _).drew (by simp)⟩
        clear hrd hrd' hrdf hch hi0 hsz0 i0
        go_wp2_with fail
        refine dr_begin (by kernel_rfl) ?_
        refine dr_more (fun W => W.cell? ⟨ab, ao + k * 3, none⟩ = some (.int .u8 (what : Int)) ∧ W.cell? ⟨ab, ao + k * 3 + 1, none⟩ = some (.int .u64 (num : Int)) ∧ W.cell? ⟨ab, ao + k * 3 + 2, none⟩ = some (.string t)) ?_
        have hT : True ∧ wA.drew.cell? ⟨ab, ao + k * 3, none⟩ = some (.int .u8 (what : Int)) ∧ wA.drew.cell? ⟨ab, ao + k * 3 + 1, none⟩ = some (.int .u64 (num : Int)) ∧ wA.drew.cell? ⟨ab, ao + k * 3 + 2, none⟩ = some (.string t) := ⟨trivial, Hcell.out _ hcd⟩
        refine dr_take 0 (some 33) (v := ?_) rfl rfl (by kernel_rfl) (by kernel_rfl) (by kernel_rfl) (fun _ _ _ h => h) rfl hT (fun W _ => ?_) ?_
        rotate_left
        · (go_simp; try with_reducible rfl)
        try simp only [Act.put, List.setIfInBounds_toArray, List.set_cons_zero, List.set_cons_succ]
        refine dr_take 1 (some 34) (v := ?_) rfl rfl (by kernel_rfl) (by kernel_rfl) (by kernel_rfl) (fun _ _ _ h => h) rfl hT (fun W _ => ?_) ?_
        rotate_left
        · (go_simp; try with_reducible rfl)
        try simp only [Act.put, List.setIfInBounds_toArray, List.set_cons_zero, List.set_cons_succ]
        refine dr_take 2 (some 35) (v := ?_) rfl rfl (by kernel_rfl) (by kernel_rfl) (by kernel_rfl) (fun _ _ _ h => h) rfl hT (fun W _ => ?_) ?_
        rotate_left
        · (go_simp; try with_reducible rfl)
        try simp only [Act.put, List.setIfInBounds_toArray, List.set_cons_zero, List.set_cons_succ]
        refine dr_take 3 (some 36) (v := ?_) rfl rfl (by kernel_rfl) (by kernel_rfl) (by kernel_rfl) (fun _ _ _ h => h) rfl hT (fun W _ => ?_) ?_
        rotate_left
        · (go_simp; try with_reducible rfl)
        try simp only [Act.put, List.setIfInBounds_toArray, List.set_cons_zero, List.set_cons_succ]
        refine dr_take 4 (some 37) (v := ?_) rfl rfl (by kernel_rfl) (by kernel_rfl) (by kernel_rfl) (fun _ _ _ h => h) rfl hT (fun W _ => ?_) ?_
        rotate_left
        · (go_simp; try with_reducible rfl)
        try simp only [Act.put, List.setIfInBounds_toArray, List.set_cons_zero, List.set_cons_succ]
        refine dr_take 5 (some 38) (v := ?_) rfl rfl (by kernel_rfl) (by kernel_rfl) (by kernel_rfl) (fun _ _ _ h => h) rfl hT (fun W _ => ?_) ?_
        rotate_left
        · (go_simp; try with_reducible rfl)
        try simp only [Act.put, List.setIfInBounds_toArray, List.set_cons_zero, List.set_cons_succ]
        refine dr_take 6 (some 39) (v := ?_) rfl rfl (by kernel_rfl) (by kernel_rfl) (by kernel_rfl) (fun _ _ _ h => h) rfl hT (fun W _ => ?_) ?_
        rotate_left
        · (go_simp; try with_reducible rfl)
        try simp only [Act.put, List.setIfInBounds_toArray, List.set_cons_zero, List.set_cons_succ]
        refine dr_take 7 (some 40) (v := ?_) rfl rfl (by kernel_rfl) (by kernel_rfl) (by kernel_rfl) (fun _ _ _ h => h) rfl hT (fun W _ => ?_) ?_
        rotate_left
        · (go_simp; try with_reducible rfl)
        try simp only [Act.put, List.setIfInBounds_toArray, List.set_cons_zero, List.set_cons_succ]
        refine dr_take 8 (some 41) (v := ?_) rfl rfl (by kernel_rfl) (by kernel_rfl) (by kernel_rfl) (fun _ _ _ h => h) rfl hT (fun W _ => ?_) ?_
        rotate_left
        · (go_simp; try with_reducible rfl)
        try simp only [Act.put, List.setIfInBounds_toArray, List.set_cons_zero, List.set_cons_succ]
        refine dr_take 9 (some 42) (v := ?_) rfl rfl (by kernel_rfl) (by kernel_rfl) (by kernel_rfl) (fun _ _ _ h => h) rfl hT (fun W hW => ?_) ?_
        rotate_left
        · (obtain ⟨-, h1, h2, h3⟩ := hW; go_simp; try with_reducible rfl)
        try simp only [Act.put, List.setIfInBounds_toArray, List.set_cons_zero, List.set_cons_succ]
        refine dr_step 10 rfl (by kernel_rfl) rfl (fun K hK => ?_)
        go_simp
        refine (put_any _ none L ⟨what, num, t⟩ _ hbsl ⟨hw8, hn64⟩ (by simp only; omega)).mono ?_
        rintro e v1 ⟨vv, rfl, hst⟩
        have hbr := BR.put hcd hst
        have hT : True ∧ v1.cell? ⟨ab, ao + k * 3, none⟩ = some (.int .u8 (what : Int)) ∧ v1.cell? ⟨ab, ao + k * 3 + 1, none⟩ = some (.int .u64 (num : Int)) ∧ v1.cell? ⟨ab, ao + k * 3 + 2, none⟩ = some (.string t) := ⟨trivial, Hcell.out _ (by obtain ⟨_, _, _, _, _, h⟩ := hbr; exact h)⟩
        refine hK.out _ _ hT ?_
        clear hK K
        try simp only [Act.put, List.setIfInBounds_toArray, List.set_cons_zero, List.set_cons_succ]
        refine dr_take 11 (some 0) (v := ?_) rfl rfl (by kernel_rfl) (by kernel_rfl) (by kernel_rfl) (fun _ _ _ h => h) rfl hT (fun W _ => ?_) ?_
        rotate_left
        · (go_simp; try with_reducible rfl)
        try simp only [Act.put, List.setIfInBounds_toArray, List.set_cons_zero, List.set_cons_succ]
        refine dr_done (by kernel_rfl) ?_
        go_wp2_with fail
        go_roundw
        case rel => exact ⟨k + 1, by omega, by go_num, by rw [Hsu.out, ← List.append_assoc, HL.out]; exact hbr⟩
        case measure => simp [intOf]; omega
      · obtain rfl : n1 = k := by omega
        rw [List.take_of_length_le (by omega)] at hrd hlen hnl
        clear hlt hk
        generalize hL : l0 ++ partBytes l1 = L at *
        clear hL
        go_wp2_with fail
        refine (new_reader A n c L wA hrd (by omega)).mono ?_
        rintro e w2 ⟨r, g, rfl, hrr, hrb, hrg, hc2⟩
        have hrd2 := hrd.nil hc2
        have hs1 := hch.size
        have hs2 := hc2.size
        have hrl := hrr.lt
        have hgl : g < w2.heap.size := hrr.1
        have hal : 0 < n → ∀ a, A = some a → a.block < wA.heap.size := by
          rintro hn a rfl
          obtain ⟨b', o', e, hc⟩ := hrd.cell hn
          injection e with e
          subst e
          exact World.block_lt_of_cell? wA _ (hc 0 (by have := hrd.length; omega))
        obtain ⟨q, hq, hqr, hqm⟩ : ∃ q : Nat, (0 < n → ∀ a, A = some a → a.block = q) ∧ q ≠ r ∧ q ≠ w2.heap.size := by
          by_cases hn : 0 < n
          · rcases A with _ | a
            · exact ⟨w2.heap.size + 1, by simp, by omega, by omega⟩
            · have := hal hn a rfl
              exact ⟨a.block, by intro _ a' ha'; injection ha' with ha'; rw [ha'], by omega, by omega⟩
          · exact ⟨w2.heap.size + 1, fun h => absurd h hn, by omega, by omega⟩
        have hRR : RR2 w (w2.alloc (.cells #[.slice A n c, .bool false] 53)) r g w2.heap.size q (some L) (some L) :=
          ⟨hrr.nil ((Ch.refl _ _).alloc _), ⟨A, n, c, false, heap_alloc_new _ _, fun hn a ha => ⟨hq hn a ha, hqm⟩, rfl, hrd2.nil ((Ch.refl _ _).alloc _), by omega⟩, (hch.trans hc2 (by simp)).alloc _, by omega, by omega, by omega, by omega, hqr⟩
        clear hal hq hqr hqm
        clear hrr hrb hrg hc2 hrd hrd2 hs1 hs2 hrl hgl hch
        go_wp2_with fail
        go_loopw [10] (fun i wr => ∃ (k : Nat) (st : Option (List UInt8)), k ≤ n2 ∧ i = .int .i64 k ∧ RR2 w wr r g w2.heap.size q st st) (fun i _ => n2 - (intOf i).toNat)
        case atStart => exact ⟨0, some L, Nat.zero_le _, rfl, hRR⟩
        case round =>
          clear hRR
          obtain ⟨k, st, hk, rfl, hS⟩ := hrel
          obtain ⟨wB, hwB⟩ : ∃ W, W = wr := ⟨_, rfl⟩
          subst hwB
          generalize hmm : w2.heap.size = m at *
          clear hmm
          by_cases hlt : k < n2
          · obtain ⟨hb, ho, rfl, hcell⟩ := RdB.cell (hr2.nil hS.ch) (by omega)
            have hx := hcell k (by omega)
            clear hcell
            generalize hxe : l2[k] = x at *
            clear hxe
            have hx8 := u8_lt x
            have hx0 := u8_ge x
            generalize (x.toNat : Int) = z at *
            have hm : z % 4 = 0 ∨ z % 4 = 1 ∨ z % 4 = 2 ∨ z % 4 = 3 := by omega
            rcases hm with hm | hm | hm | hm
            · have e0 : (z % 4 == 0) = true := by simp; omega
              obtain ⟨y, hy⟩ := ans_num st
              have h1 := hS.num
              rw [hy] at h1
              have hq1 : binOp .eql 33 (.int .u64 (y : Int)) (.int .u64 (y : Int)) = pure (.bool true) := eql_int_yes _ _ _
              go_wp2_with fail
              refine h1.mono ?_
              rintro e w5 ⟨rfl, hS5⟩
              have h2 := hS5.num'
              rw [hy] at h2
              go_wp2_with fail
              refine h2.mono ?_
              rintro e w6 ⟨rfl, hS6⟩
              go_wp2_with fail
              go_roundw
              case rel => exact ⟨k + 1, _, by omega, by go_num, hS6⟩
              case measure => simp [intOf]; omega
            · have e0 : (z % 4 == 0) = false := by simp; omega
              have e1 : (z % 4 == 1) = true := by simp; omega
              obtain ⟨y, hy⟩ := ans_int st
              have h1 := hS.int
              rw [hy] at h1
              have hq1 : binOp .eql 2 (.int .i64 y) (.int .i64 y) = pure (.bool true) := eql_int_yes _ _ _
              go_wp2_with fail
              refine h1.mono ?_
              rintro e w5 ⟨rfl, hS5⟩
              have h2 := hS5.int'
              rw [hy] at h2
              go_wp2_with fail
              refine h2.mono ?_
              rintro e w6 ⟨rfl, hS6⟩
              go_wp2_with fail
              go_roundw
              case rel => exact ⟨k + 1, _, by omega, by go_num, hS6⟩
              case measure => simp [intOf]; omega
            · have e0 : (z % 4 == 0) = false := by simp; omega
              have e1 : (z % 4 == 1) = false := by simp; omega
              have e2 : (z % 4 == 2) = true := by simp; omega
              obtain ⟨y, hy⟩ := ans_text st
              have h1 := hS.text
              rw [hy] at h1
              have hq1 : binOp .eql 9 (.string y) (.string y) = pure (.bool true) := eql_str_yes _ _
              go_wp2_with fail
              refine h1.mono ?_
              rintro e w5 ⟨rfl, hS5⟩
              have h2 := hS5.text'
              rw [hy] at h2
              go_wp2_with fail
              refine h2.mono ?_
              rintro e w6 ⟨rfl, hS6⟩
              go_wp2_with fail
              go_roundw
              case rel => exact ⟨k + 1, _, by omega, by go_num, hS6⟩
              case measure => simp [intOf]; omega
            · have e0 : (z % 4 == 0) = false := by simp; omega
              have e1 : (z % 4 == 1) = false := by simp; omega
              have e2 : (z % 4 == 2) = false := by simp; omega
              obtain ⟨y, hy⟩ := ans_bool st
              have h1 := hS.bool
              rw [hy] at h1
              go_wp2_with fail
              refine h1.mono ?_
              rintro e w5 ⟨rfl, hS5⟩
              have h2 := hS5.bool'
              rw [hy] at h2
              go_wp2_with fail
              refine h2.mono ?_
              rintro e w6 ⟨rfl, hS6⟩
              go_wp2_with fail
              go_roundw
              case rel => exact ⟨k + 1, _, by omega, by go_num, hS6⟩
              case measure => simp [intOf]; omega
          · obtain rfl : n2 = k := by omega
            clear hlt hk
            obtain ⟨A5, n5, c5, f5, hb5, hA5, hst5⟩ := id hS.rr
            have hS := hS.drew
            have h50 := cell_at hb5 0 rfl
            have h51 := cell_at hb5 1 rfl
            cases st with
            | none =>
              obtain rfl : f5 = true := hst5
              go_wp2_with fail
              refine dr_begin (by kernel_rfl) ?_
              refine dr_more (fun W => W.cell? ⟨m, 0, none⟩ = some (.slice A5 n5 c5) ∧ W.cell? ⟨m, 1, none⟩ = some (.bool true)) ?_
              have hT : True ∧ wB.drew.cell? ⟨m, 0, none⟩ = some (.slice A5 n5 c5) ∧ wB.drew.cell? ⟨m, 1, none⟩ = some (.bool true) := ⟨trivial, h50, h51⟩
              have e8 : doneV none = 20 := rfl
              refine dr_take 0 (some 88) (v := ?_) rfl rfl (by kernel_rfl) (by kernel_rfl) (by kernel_rfl) (fun _ _ _ h => h) rfl hT (fun W _ => ?_) ?_
              rotate_left
              · (go_simp; try with_reducible rfl)
              try simp only [Act.put, List.setIfInBounds_toArray, List.set_cons_zero, List.set_cons_succ]
              refine dr_take 3 (some 91) (v := ?_) rfl rfl (by kernel_rfl) (by kernel_rfl) (by kernel_rfl) (fun _ _ _ h => h) rfl hT (fun W _ => ?_) ?_
              rotate_left
              · (go_simp; try with_reducible rfl)
              try simp only [Act.put, List.setIfInBounds_toArray, List.set_cons_zero, List.set_cons_succ]
              refine dr_take 4 (some 92) (v := ?_) rfl rfl (by kernel_rfl) (by kernel_rfl) (by kernel_rfl) (fun _ _ _ h => h) rfl hT (fun W _ => ?_) ?_
              rotate_left
              · (go_simp; try with_reducible rfl)
              try simp only [Act.put, List.setIfInBounds_toArray, List.set_cons_zero, List.set_cons_succ]
              refine dr_take 5 (some 93) (v := ?_) rfl rfl (by kernel_rfl) (by kernel_rfl) (by kernel_rfl) (fun _ _ _ h => h) rfl hT (fun W _ => ?_) ?_
              rotate_left
              · (go_simp; try with_reducible rfl)
              try simp only [Act.put, List.setIfInBounds_toArray, List.set_cons_zero, List.set_cons_succ]
              refine dr_take 6 (some 94) (v := ?_) rfl rfl (by kernel_rfl) (by kernel_rfl) (by kernel_rfl) (fun _ _ _ h => h) rfl hT (fun W hW => ?_) ?_
              rotate_left
              · (obtain ⟨-, h1, h2⟩ := hW; go_simp; try with_reducible rfl)
              try simp only [Act.put, List.setIfInBounds_toArray, List.set_cons_zero, List.set_cons_succ]
              refine dr_take 7 (some 95) (v := ?_) rfl rfl (by kernel_rfl) (by kernel_rfl) (by kernel_rfl) (fun _ _ _ h => h) rfl hT (fun W _ => ?_) ?_
              rotate_left
              · (go_simp; try with_reducible rfl)
              try simp only [Act.put, List.setIfInBounds_toArray, List.set_cons_zero, List.set_cons_succ]
              refine dr_step 1 rfl (by kernel_rfl) rfl (fun K hK => ?_)
              go_simp
              refine hS.done.mono ?_
              rintro e v1 ⟨rfl, rfl⟩
              try rw [e8]
              refine hK.out _ _ hT ?_
              clear hK K
              try simp only [Act.put, List.setIfInBounds_toArray, List.set_cons_zero, List.set_cons_succ]
              refine dr_take 2 (some 90) (v := ?_) rfl rfl (by kernel_rfl) (by kernel_rfl) (by kernel_rfl) (fun _ _ _ h => h) rfl hT (fun W _ => ?_) ?_
              rotate_left
              · (go_simp; try with_reducible rfl)
              try simp only [Act.put, List.setIfInBounds_toArray, List.set_cons_zero, List.set_cons_succ]
              refine dr_take 8 (some 96) (v := ?_) rfl rfl (by kernel_rfl) (by kernel_rfl) (by kernel_rfl) (fun _ _ _ h => h) rfl hT (fun W _ => ?_) ?_
              rotate_left
              · (go_simp; try with_reducible rfl)
              try simp only [Act.put, List.setIfInBounds_toArray, List.set_cons_zero, List.set_cons_succ]
              refine dr_skip 9 (some 97) rfl rfl (by kernel_rfl) (by kernel_rfl) (by kernel_rfl) (fun _ _ _ h => h) rfl hT ?_
              try simp only [Act.put, List.setIfInBounds_toArray, List.set_cons_zero, List.set_cons_succ]
              refine dr_skip 10 (some 98) rfl rfl (by kernel_rfl) (by kernel_rfl) (by kernel_rfl) (fun _ _ _ h => h) rfl hT ?_
              try simp only [Act.put, List.setIfInBounds_toArray, List.set_cons_zero, List.set_cons_succ]
              refine dr_skip 11 (some 99) rfl rfl (by kernel_rfl) (by kernel_rfl) (by kernel_rfl) (fun _ _ _ h => h) rfl hT ?_
              try simp only [Act.put, List.setIfInBounds_toArray, List.set_cons_zero, List.set_cons_succ]
              refine dr_skip 12 (some 100) rfl rfl (by kernel_rfl) (by kernel_rfl) (by kernel_rfl) (fun _ _ _ h => h) rfl hT ?_
              try simp only [Act.put, List.setIfInBounds_toArray, List.set_cons_zero, List.set_cons_succ]
              refine dr_skip 13 (some 101) rfl rfl (by kernel_rfl) (by kernel_rfl) (by kernel_rfl) (fun _ _ _ h => h) rfl hT ?_
              try simp only [Act.put, List.setIfInBounds_toArray, List.set_cons_zero, List.set_cons_succ]
              refine dr_skip 14 (some 102) rfl rfl (by kernel_rfl) (by kernel_rfl) (by kernel_rfl) (fun _ _ _ h => h) rfl hT ?_
              try simp only [Act.put, List.setIfInBounds_toArray, List.set_cons_zero, List.set_cons_succ]
              refine dr_take 15 (some 103) (v := ?_) rfl rfl (by kernel_rfl) (by kernel_rfl) (by kernel_rfl) (fun _ _ _ h => h) rfl hT (fun W _ => ?_) ?_
              rotate_left
              · (go_simp; try with_reducible rfl)
              try simp only [Act.put, List.setIfInBounds_toArray, List.set_cons_zero, List.set_cons_succ]
              refine dr_take 16 (some 104) (v := ?_) rfl rfl (by kernel_rfl) (by kernel_rfl) (by kernel_rfl) (fun _ _ _ h => h) rfl hT (fun W _ => ?_) ?_
              rotate_left
              · (go_simp; try with_reducible rfl)
              try simp only [Act.put, List.setIfInBounds_toArray, List.set_cons_zero, List.set_cons_succ]
              refine dr_take 17 (some 6) (v := ?_) rfl rfl (by kernel_rfl) (by kernel_rfl) (by kernel_rfl) (fun _ _ _ h => h) rfl hT (fun W _ => ?_) ?_
              rotate_left
              · (go_simp; try with_reducible rfl)
              try simp only [Act.put, List.setIfInBounds_toArray, List.set_cons_zero, List.set_cons_succ]
              refine dr_done (by kernel_rfl) ?_
              go_wp2_with fail
              go_ret
              exact ⟨rfl, hS.ch⟩
            | some l =>
              obtain ⟨rfl, hrd5, hn5⟩ := hst5
              have hl5 := hrd5.length
              cases l with
              | nil =>
                obtain rfl : n5 = 0 := by simpa using hl5.symm
                clear hl5 hrd5
                go_wp2_with fail
                refine dr_begin (by kernel_rfl) ?_
                refine dr_more (fun W => W.cell? ⟨m, 0, none⟩ = some (.slice A5 0 c5) ∧ W.cell? ⟨m, 1, none⟩ = some (.bool false)) ?_
                have hT : True ∧ wB.drew.cell? ⟨m, 0, none⟩ = some (.slice A5 0 c5) ∧ wB.drew.cell? ⟨m, 1, none⟩ = some (.bool false) := ⟨trivial, h50, h51⟩
                have e8 : doneV (some []) = 0 := rfl
                refine dr_take 0 (some 88) (v := ?_) rfl rfl (by kernel_rfl) (by kernel_rfl) (by kernel_rfl) (fun _ _ _ h => h) rfl hT (fun W _ => ?_) ?_
                rotate_left
                · (go_simp; try with_reducible rfl)
                try simp only [Act.put, List.setIfInBounds_toArray, List.set_cons_zero, List.set_cons_succ]
                refine dr_take 3 (some 91) (v := ?_) rfl rfl (by kernel_rfl) (by kernel_rfl) (by kernel_rfl) (fun _ _ _ h => h) rfl hT (fun W _ => ?_) ?_
                rotate_left
                · (go_simp; try with_reducible rfl)
                try simp only [Act.put, List.setIfInBounds_toArray, List.set_cons_zero, List.set_cons_succ]
                refine dr_take 4 (some 92) (v := ?_) rfl rfl (by kernel_rfl) (by kernel_rfl) (by kernel_rfl) (fun _ _ _ h => h) rfl hT (fun W _ => ?_) ?_
                rotate_left
                · (go_simp; try with_reducible rfl)
                try simp only [Act.put, List.setIfInBounds_toArray, List.set_cons_zero, List.set_cons_succ]
                refine dr_take 5 (some 93) (v := ?_) rfl rfl (by kernel_rfl) (by kernel_rfl) (by kernel_rfl) (fun _ _ _ h => h) rfl hT (fun W _ => ?_) ?_
                rotate_left
                · (go_simp; try with_reducible rfl)
                try simp only [Act.put, List.setIfInBounds_toArray, List.set_cons_zero, List.set_cons_succ]
                refine dr_take 6 (some 94) (v := ?_) rfl rfl (by kernel_rfl) (by kernel_rfl) (by kernel_rfl) (fun _ _ _ h => h) rfl hT (fun W hW => ?_) ?_
                rotate_left
                · (obtain ⟨-, h1, h2⟩ := hW; go_simp; try with_reducible rfl)
                try simp only [Act.put, List.setIfInBounds_toArray, List.set_cons_zero, List.set_cons_succ]
                refine dr_take 7 (some 95) (v := ?_) rfl rfl (by kernel_rfl) (by kernel_rfl) (by kernel_rfl) (fun _ _ _ h => h) rfl hT (fun W _ => ?_) ?_
                rotate_left
                · (go_simp; try with_reducible rfl)
                try simp only [Act.put, List.setIfInBounds_toArray, List.set_cons_zero, List.set_cons_succ]
                refine dr_step 1 rfl (by kernel_rfl) rfl (fun K hK => ?_)
                go_simp
                refine hS.done.mono ?_
                rintro e v1 ⟨rfl, rfl⟩
                try rw [e8]
                refine hK.out _ _ hT ?_
                clear hK K
                try simp only [Act.put, List.setIfInBounds_toArray, List.set_cons_zero, List.set_cons_succ]
                refine dr_take 2 (some 90) (v := ?_) rfl rfl (by kernel_rfl) (by kernel_rfl) (by kernel_rfl) (fun _ _ _ h => h) rfl hT (fun W _ => ?_) ?_
                rotate_left
                · (go_simp; try with_reducible rfl)
                try simp only [Act.put, List.setIfInBounds_toArray, List.set_cons_zero, List.set_cons_succ]
                refine dr_take 8 (some 96) (v := ?_) rfl rfl (by kernel_rfl) (by kernel_rfl) (by kernel_rfl) (fun _ _ _ h => h) rfl hT (fun W _ => ?_) ?_
                rotate_left
                · (go_simp; try with_reducible rfl)
                try simp only [Act.put, List.setIfInBounds_toArray, List.set_cons_zero, List.set_cons_succ]
                refine dr_take 9 (some 97) (v := ?_) rfl rfl (by kernel_rfl) (by kernel_rfl) (by kernel_rfl) (fun _ _ _ h => h) rfl hT (fun W _ => ?_) ?_
                rotate_left
                · (go_simp; try with_reducible rfl)
                try simp only [Act.put, List.setIfInBounds_toArray, List.set_cons_zero, List.set_cons_succ]
                refine dr_take 10 (some 98) (v := ?_) rfl rfl (by kernel_rfl) (by kernel_rfl) (by kernel_rfl) (fun _ _ _ h => h) rfl hT (fun W _ => ?_) ?_
                rotate_left
                · (go_simp; try with_reducible rfl)
                try simp only [Act.put, List.setIfInBounds_toArray, List.set_cons_zero, List.set_cons_succ]
                refine dr_take 11 (some 99) (v := ?_) rfl rfl (by kernel_rfl) (by kernel_rfl) (by kernel_rfl) (fun _ _ _ h => h) rfl hT (fun W _ => ?_) ?_
                rotate_left
                · (go_simp; try with_reducible rfl)
                try simp only [Act.put, List.setIfInBounds_toArray, List.set_cons_zero, List.set_cons_succ]
                refine dr_take 12 (some 100) (v := ?_) rfl rfl (by kernel_rfl) (by kernel_rfl) (by kernel_rfl) (fun _ _ _ h => h) rfl hT (fun W hW => ?_) ?_
                rotate_left
                · (obtain ⟨-, h1, h2⟩ := hW; go_simp; try with_reducible rfl)
                try simp only [Act.put, List.setIfInBounds_toArray, List.set_cons_zero, List.set_cons_succ]
                refine dr_take 13 (some 101) (v := ?_) rfl rfl (by kernel_rfl) (by kernel_rfl) (by kernel_rfl) (fun _ _ _ h => h) rfl hT (fun W _ => ?_) ?_
                rotate_left
                · (go_simp; try with_reducible rfl)
                try simp only [Act.put, List.setIfInBounds_toArray, List.set_cons_zero, List.set_cons_succ]
                refine dr_take 14 (some 102) (v := ?_) rfl rfl (by kernel_rfl) (by kernel_rfl) (by kernel_rfl) (fun _ _ _ h => h) rfl hT (fun W _ => ?_) ?_
                rotate_left
                · (go_simp; try with_reducible rfl)
                try simp only [Act.put, List.setIfInBounds_toArray, List.set_cons_zero, List.set_cons_succ]
                refine dr_take 15 (some 103) (v := ?_) rfl rfl (by kernel_rfl) (by kernel_rfl) (by kernel_rfl) (fun _ _ _ h => h) rfl hT (fun W _ => ?_) ?_
                rotate_left
                · (go_simp; try with_reducible rfl)
                try simp only [Act.put, List.setIfInBounds_toArray, List.set_cons_zero, List.set_cons_succ]
                refine dr_take 16 (some 104) (v := ?_) rfl rfl (by kernel_rfl) (by kernel_rfl) (by kernel_rfl) (fun _ _ _ h => h) rfl hT (fun W _ => ?_) ?_
                rotate_left
                · (go_simp; try with_reducible rfl)
                try simp only [Act.put, List.setIfInBounds_toArray, List.set_cons_zero, List.set_cons_succ]
                refine dr_take 17 (some 6) (v := ?_) rfl rfl (by kernel_rfl) (by kernel_rfl) (by kernel_rfl) (fun _ _ _ h => h) rfl hT (fun W _ => ?_) ?_
                rotate_left
                · (go_simp; try with_reducible rfl)
                try simp only [Act.put, List.setIfInBounds_toArray, List.set_cons_zero, List.set_cons_succ]
                refine dr_done (by kernel_rfl) ?_
                go_wp2_with fail
                go_ret
                exact ⟨rfl, hS.ch⟩
              | cons y ys =>
                have hnz : ((n5 : Int) == 0) = false := by rw [beq_eq_false_iff_ne]; rw [← hl5]; simp only [List.length_cons]; omega
                clear hl5 hrd5
                go_wp2_with fail
                refine dr_begin (by kernel_rfl) ?_
                refine dr_more (fun W => W.cell? ⟨m, 0, none⟩ = some (.slice A5 n5 c5) ∧ W.cell? ⟨m, 1, none⟩ = some (.bool false)) ?_
                have hT : True ∧ wB.drew.cell? ⟨m, 0, none⟩ = some (.slice A5 n5 c5) ∧ wB.drew.cell? ⟨m, 1, none⟩ = some (.bool false) := ⟨trivial, h50, h51⟩
                have e8 : doneV (some (y :: ys)) = 20 := rfl
                refine dr_take 0 (some 88) (v := ?_) rfl rfl (by kernel_rfl) (by kernel_rfl) (by kernel_rfl) (fun _ _ _ h => h) rfl hT (fun W _ => ?_) ?_
                rotate_left
                · (go_simp; try with_reducible rfl)
                try simp only [Act.put, List.setIfInBounds_toArray, List.set_cons_zero, List.set_cons_succ]
                refine dr_take 3 (some 91) (v := ?_) rfl rfl (by kernel_rfl) (by kernel_rfl) (by kernel_rfl) (fun _ _ _ h => h) rfl hT (fun W _ => ?_) ?_
                rotate_left
                · (go_simp; try with_reducible rfl)
                try simp only [Act.put, List.setIfInBounds_toArray, List.set_cons_zero, List.set_cons_succ]
                refine dr_take 4 (some 92) (v := ?_) rfl rfl (by kernel_rfl) (by kernel_rfl) (by kernel_rfl) (fun _ _ _ h => h) rfl hT (fun W _ => ?_) ?_
                rotate_left
                · (go_simp; try with_reducible rfl)
                try simp only [Act.put, List.setIfInBounds_toArray, List.set_cons_zero, List.set_cons_succ]
                refine dr_take 5 (some 93) (v := ?_) rfl rfl (by kernel_rfl) (by kernel_rfl) (by kernel_rfl) (fun _ _ _ h => h) rfl hT (fun W _ => ?_) ?_
                rotate_left
                · (go_simp; try with_reducible rfl)
                try simp only [Act.put, List.setIfInBounds_toArray, List.set_cons_zero, List.set_cons_succ]
                refine dr_take 6 (some 94) (v := ?_) rfl rfl (by kernel_rfl) (by kernel_rfl) (by kernel_rfl) (fun _ _ _ h => h) rfl hT (fun W hW => ?_) ?_
                rotate_left
                · (obtain ⟨-, h1, h2⟩ := hW; go_simp; try with_reducible rfl)
                try simp only [Act.put, List.setIfInBounds_toArray, List.set_cons_zero, List.set_cons_succ]
                refine dr_take 7 (some 95) (v := ?_) rfl rfl (by kernel_rfl) (by kernel_rfl) (by kernel_rfl) (fun _ _ _ h => h) rfl hT (fun W _ => ?_) ?_
                rotate_left
                · (go_simp; try with_reducible rfl)
                try simp only [Act.put, List.setIfInBounds_toArray, List.set_cons_zero, List.set_cons_succ]
                refine dr_step 1 rfl (by kernel_rfl) rfl (fun K hK => ?_)
                go_simp
                refine hS.done.mono ?_
                rintro e v1 ⟨rfl, rfl⟩
                try rw [e8]
                refine hK.out _ _ hT ?_
                clear hK K
                try simp only [Act.put, List.setIfInBounds_toArray, List.set_cons_zero, List.set_cons_succ]
                refine dr_take 2 (some 90) (v := ?_) rfl rfl (by kernel_rfl) (by kernel_rfl) (by kernel_rfl) (fun _ _ _ h => h) rfl hT (fun W _ => ?_) ?_
                rotate_left
                · (go_simp; try with_reducible rfl)
                try simp only [Act.put, List.setIfInBounds_toArray, List.set_cons_zero, List.set_cons_succ]
                refine dr_take 8 (some 96) (v := ?_) rfl rfl (by kernel_rfl) (by kernel_rfl) (by kernel_rfl) (fun _ _ _ h => h) rfl hT (fun W _ => ?_) ?_
                rotate_left
                · (go_simp; try with_reducible rfl)
                try simp only [Act.put, List.setIfInBounds_toArray, List.set_cons_zero, List.set_cons_succ]
                refine dr_take 9 (some 97) (v := ?_) rfl rfl (by kernel_rfl) (by kernel_rfl) (by kernel_rfl) (fun _ _ _ h => h) rfl hT (fun W _ => ?_) ?_
                rotate_left
                · (go_simp; try with_reducible rfl)
                try simp only [Act.put, List.setIfInBounds_toArray, List.set_cons_zero, List.set_cons_succ]
                refine dr_take 10 (some 98) (v := ?_) rfl rfl (by kernel_rfl) (by kernel_rfl) (by kernel_rfl) (fun _ _ _ h => h) rfl hT (fun W _ => ?_) ?_
                rotate_left
                · (go_simp; try with_reducible rfl)
                try simp only [Act.put, List.setIfInBounds_toArray, List.set_cons_zero, List.set_cons_succ]
                refine dr_take 11 (some 99) (v := ?_) rfl rfl (by kernel_rfl) (by kernel_rfl) (by kernel_rfl) (fun _ _ _ h => h) rfl hT (fun W _ => ?_) ?_
                rotate_left
                · (go_simp; try with_reducible rfl)
                try simp only [Act.put, List.setIfInBounds_toArray, List.set_cons_zero, List.set_cons_succ]
                refine dr_take 12 (some 100) (v := ?_) rfl rfl (by kernel_rfl) (by kernel_rfl) (by kernel_rfl) (fun _ _ _ h => h) rfl hT (fun W hW => ?_) ?_
                rotate_left
                · (obtain ⟨-, h1, h2⟩ := hW; go_simp; try with_reducible rfl)
                try simp only [Act.put, List.setIfInBounds_toArray, List.set_cons_zero, List.set_cons_succ]
                refine dr_take 13 (some 101) (v := ?_) rfl rfl (by kernel_rfl) (by kernel_rfl) (by kernel_rfl) (fun _ _ _ h => h) rfl hT (fun W _ => ?_) ?_
                rotate_left
                · (go_simp; try with_reducible rfl)
                try simp only [Act.put, List.setIfInBounds_toArray, List.set_cons_zero, List.set_cons_succ]
                refine dr_take 14 (some 102) (v := ?_) rfl rfl (by kernel_rfl) (by kernel_rfl) (by kernel_rfl) (fun _ _ _ h => h) rfl hT (fun W _ => ?_) ?_
                rotate_left
                · (go_simp; try with_reducible rfl)
                try simp only [Act.put, List.setIfInBounds_toArray, List.set_cons_zero, List.set_cons_succ]
                refine dr_take 15 (some 103) (v := ?_) rfl rfl (by kernel_rfl) (by kernel_rfl) (by kernel_rfl) (fun _ _ _ h => h) rfl hT (fun W _ => ?_) ?_
                rotate_left
                · (go_simp; try with_reducible rfl)
                try simp only [Act.put, List.setIfInBounds_toArray, List.set_cons_zero, List.set_cons_succ]
                refine dr_take 16 (some 104) (v := ?_) rfl rfl (by kernel_rfl) (by kernel_rfl) (by kernel_rfl) (fun _ _ _ h => h) rfl hT (fun W _ => ?_) ?_
                rotate_left
                · (go_simp; try with_reducible rfl)
                try simp only [Act.put, List.setIfInBounds_toArray, List.set_cons_zero, List.set_cons_succ]
                refine dr_take 17 (some 6) (v := ?_) rfl rfl (by kernel_rfl) (by kernel_rfl) (by kernel_rfl) (fun _ _ _ h => h) rfl hT (fun W _ => ?_) ?_
                rotate_left
                · (go_simp; try with_reducible rfl)
                try simp only [Act.put, List.setIfInBounds_toArray, List.set_cons_zero, List.set_cons_succ]
                refine dr_done (by kernel_rfl) ?_
                go_wp2_with fail
                go_ret
                exact ⟨rfl, hS.ch⟩

end Go.Proofs.Ytbkncfedahifkaa
