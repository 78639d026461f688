/-
  CodeInts: each integer has just one text, and that of two the one nearer to 0 has no longer one.
-/
import Derived.Test.YtbkncfedahifkaaKnown2
import Derived.Deep.RegionWith
import Derived.Test.YtbkncfedahifkaaDraw
set_option linter.unusedVariables false
set_option linter.unusedSimpArgs false
namespace Go.Proofs.Ytbkncfedahifkaa
open Go.RowKit

/-- What the last statement of CodeInts stands on: two writers, a reader, and what was handed out. -/
structure CI (w cur : World) (p q r g : Nat) (op oq : Option Nat) (la lb : List UInt8) (st : Option (List UInt8)) (H : List (Option Addr × Nat × Nat × List UInt8)) : Prop where
  wp : IsWr cur p op la
  wq : IsWr cur q oq lb
  rr : IsRd cur r g st
  ch : Ch [] w cur
  held : ∀ x ∈ H, RdB cur x.1 x.2.1 x.2.2.1 x.2.2.2 ∧ ∀ a, x.1 = some a → a.block ≠ r
  hr : w.heap.size ≤ r
  hpr : p ≠ r
  hqr : q ≠ r
  hop : ∀ k, op = some k → k ≠ r
  hoq : ∀ k, oq = some k → k ≠ r
section
variable {w cur : World} {p q r g : Nat} {op oq : Option Nat} {la lb : List UInt8} {st : Option (List UInt8)} {H : List (Option Addr × Nat × Nat × List UInt8)}
theorem CI.nil {cur' : World} (h : CI w cur p q r g op oq la lb st H) (hc : Ch [] cur cur') : CI w cur' p q r g op oq la lb st H :=
  ⟨h.wp.keep hc (by simp) (by simp), h.wq.keep hc (by simp) (by simp), h.rr.nil hc, h.ch.trans hc (by simp), fun x hx => ⟨(h.held x hx).1.keep hc (by simp), (h.held x hx).2⟩, h.hr, h.hpr, h.hqr, h.hop, h.hoq⟩
theorem CI.drew (h : CI w cur p q r g op oq la lb st H) : CI w cur.drew p q r g op oq la lb st H := h.nil (Ch.refl _ _).drew
theorem CI.more {cur' : World} {l : List UInt8} {v : Value} (h : CI w cur p q r g op oq la lb st H) (hc : Ch [] cur cur') (hv : OwnB cur.heap.size l cur' v) :
    ∃ A c, v = .slice A l.length c ∧ CI w cur' p q r g op oq la lb st ((A, l.length, c, l) :: H) := by
  obtain ⟨A, c, rfl, hown⟩ := hv
  have h' := h.nil hc
  refine ⟨A, c, rfl, h'.wp, h'.wq, h'.rr, h'.ch, ?_, h.hr, h.hpr, h.hqr, h.hop, h.hoq⟩
  intro x hx
  rcases List.mem_cons.1 hx with rfl | hx
  · refine ⟨own_rd hown, fun a ha => ?_⟩
    simp only at ha
    subst ha
    have h1 := own_ge hown a.block rfl
    have h2 := h.rr.lt
    omega
  · exact h'.held x hx
theorem CI.bytesP (h : CI w cur p q r g op oq la lb st H) (hn : la.length ≤ 140737488355328) :
    Calls Try.prog 22 #[.pointer (some ⟨p, 0, none⟩)] cur fun e w' => ∃ A c, e = .returned (.slice A la.length c) ∧ CI w w' p q r g op oq la lb st ((A, la.length, c, la) :: H) :=
  (wbytes p op la cur h.wp hn).mono fun e w' ⟨v, he, hv, hc⟩ => by
    obtain ⟨A, c, rfl, h'⟩ := h.more hc hv
    exact ⟨A, c, he, h'⟩
theorem CI.bytesQ (h : CI w cur p q r g op oq la lb st H) (hn : lb.length ≤ 140737488355328) :
    Calls Try.prog 22 #[.pointer (some ⟨q, 0, none⟩)] cur fun e w' => ∃ A c, e = .returned (.slice A lb.length c) ∧ CI w w' p q r g op oq la lb st ((A, lb.length, c, lb) :: H) :=
  (wbytes q oq lb cur h.wq hn).mono fun e w' ⟨v, he, hv, hc⟩ => by
    obtain ⟨A, c, rfl, h'⟩ := h.more hc hv
    exact ⟨A, c, he, h'⟩
theorem CI.int (h : CI w cur p q r g op oq la lb st H) :
    Calls Try.prog 23 #[.pointer (some ⟨r, 0, none⟩)] cur fun e w' => e = .returned (ans (.int .i64 0) (st.bind rInt)) ∧ CI w w' p q r g op oq la lb ((st.bind rInt).map (·.2)) H :=
  (rint r g st cur h.rr).mono fun e w' ⟨he, h1, h2⟩ => ⟨he, h.wp.keep h2 (by simpa using h.hpr) (by simpa using h.hop), h.wq.keep h2 (by simpa using h.hqr) (by simpa using h.hoq), h1,
    h.ch.trans h2 (by simpa using h.hr), fun x hx => ⟨(h.held x hx).1.keep h2 (by simpa using (h.held x hx).2), (h.held x hx).2⟩, h.hr, h.hpr, h.hqr, h.hop, h.hoq⟩
theorem CI.int' {x : Int} (h : CI w cur p q r g op oq la lb (some la) H) (hd : rInt la = some (.int .i64 x, [])) :
    Calls Try.prog 23 #[.pointer (some ⟨r, 0, none⟩)] cur fun e w' => e = .returned (.int .i64 x) ∧ CI w w' p q r g op oq la lb (some []) H :=
  h.int.mono fun e w' ⟨he, h1⟩ => by
    rw [Option.bind_some, hd] at h1 he
    exact ⟨he, h1⟩
theorem CI.done' (h : CI w cur p q r g op oq la lb (some []) H) :
    Calls Try.prog 24 #[.pointer (some ⟨r, 0, none⟩)] cur fun e w' => e = .returned (.int .i64 0) ∧ cur = w' := rdone r g (some []) cur h.rr
theorem CI.done (h : CI w cur p q r g op oq la lb st H) :
    Calls Try.prog 24 #[.pointer (some ⟨r, 0, none⟩)] cur fun e w' => e = .returned (.int .i64 (doneV st)) ∧ cur = w' := rdone r g st cur h.rr
theorem CI.conv (h : CI w cur p q r g op oq la lb st H) : ∀ x ∈ H, (convert 28 9 (.slice x.1 x.2.1 x.2.2.1)).run Try.prog cur = .ok (.string (str x.2.2.2)) cur :=
  fun x hx => conv_str (h.held x hx).1 28 5 9 Try.underlying28 Try.underlying5 Try.underlying9
end

set_option maxRecDepth 100000 in
set_option maxHeartbeats 16000000 in
theorem code_ints (a b : Int) (w : World) (ha0 : -9223372036854775808 ≤ a) (ha1 : a ≤ 9223372036854775807) (hb0 : -9223372036854775808 ≤ b) (hb1 : b ≤ 9223372036854775807) :
    Calls Try.prog 3 #[.int .i64 a, .int .i64 b] w fun e w' => e = .returned (.bool true) ∧ Ch [] w w' := by
  go_enter Try.func3, Try.ntmps3
  go_wp2_with fail
  refine (known2 _).mono ?_
  rintro e w0 ⟨rfl, hc0⟩
  go_wp2_with fail
  refine (new_wr _).mono ?_
  rintro e w1 ⟨p, rfl, hp1, hpb, hc1⟩
  have hs0 := hc0.size
  have hcw1 := hc0.trans hc1 (by simp)
  have hs1 := hcw1.size
  go_wp2_with fail
  refine (new_wr _).mono ?_
  rintro e w2 ⟨q, rfl, hq2, hqb, hc2⟩
  have hcw2 := hcw1.trans hc2 (by simp)
  have hp2 := hp1.keep hc2 (by simp) (by simp)
  have hpl := hp1.lt
  have hpq : p ≠ q := by omega
  go_wp2_with fail
  have hla : zz a < 18446744073709551616 := zz_lt ha0 ha1
  have hlb : zz b < 18446744073709551616 := zz_lt hb0 hb1
  have hea : (encN (zz a)).length ≤ 10 := encN_len10 hla
  have heb : (encN (zz b)).length ≤ 10 := encN_len10 hlb
  have Hla := Lib.hid hla; have Hlb := Lib.hid hlb; clear hla hlb
  refine (wint p none [] _ 1 1 [a] _ (hp2.alloc _) (rd_one w2 _ 2) (by simpa using ⟨ha0, ha1⟩) (by simp) hp2.fresh).mono ?_
  rintro e w3 ⟨rfl, hst3⟩
  have hq3 : IsWr w3 q none [] := by
    obtain ⟨_, _, _, h3⟩ := hst3
    exact (hq2.alloc _).keep h3 (by simpa using fun e => hpq e.symm) (by simp)
  obtain ⟨o3, hp3, ho3, hcw3⟩ := hst3.own (w := w) (by omega) (by simp) (hcw2.alloc _)
  have e3 : ([] : List UInt8) ++ encs ([a].map zz) = encN (zz a) := by simp [encs]
  rw [e3] at hp3
  have hpo : ∀ k, o3 = some k → k ≠ q := by
    intro k hk e
    subst e
    obtain ⟨_, h2, _, _⟩ := hq3
    obtain ⟨_, _, h5, rfl⟩ := hp3
    rcases h5.2 with ⟨rfl, _⟩ | ⟨g, cap, cur, rfl, _, hh, _⟩
    · simp [Value.ownBlock] at hk
    · simp only [Value.ownBlock, Option.some.injEq] at hk
      subst hk
      rw [hh] at h2
      simp at h2
  clear hst3 e3 hp2 hq2 hp1 hcw1 hcw2 hc1 hc2
  go_wp2_with fail
  refine (wint q none [] _ 1 1 [b] _ (hq3.alloc _) (rd_one w3 _ 2) (by simpa using ⟨hb0, hb1⟩) (by simp) hq3.fresh).mono ?_
  rintro e w4 ⟨rfl, hst4⟩
  have hp4 : IsWr w4 p o3 (encN (zz a)) := by
    obtain ⟨_, _, _, h3⟩ := hst4
    exact (hp3.alloc _).keep h3 (by simpa using hpq) (by simpa using hpo)
  obtain ⟨o4, hq4, ho4, hcw4⟩ := hst4.own (w := w) (by omega) (by simp) (hcw3.alloc _)
  have e4 : ([] : List UInt8) ++ encs ([b].map zz) = encN (zz b) := by simp [encs]
  rw [e4] at hq4
  clear hst4 e4 hp3 hq3 hcw3 hpo ho3 ho4
  go_wp2_with fail
  refine (wbytes p o3 _ _ hp4 (by omega)).mono ?_
  rintro e w5 ⟨v, rfl, ⟨A5, c5, rfl, hown5⟩, hc5⟩
  have hp5 := hp4.keep hc5 (by simp) (by simp)
  have hq5 := hq4.keep hc5 (by simp) (by simp)
  have hcw5 := hcw4.trans hc5 (by simp)
  have hs5 := hcw5.size
  clear hp4 hq4 hcw4 hc5
  go_wp2_with fail
  refine (new_reader A5 _ c5 _ _ (own_rd hown5) (by omega)).mono ?_
  rintro e w6 ⟨r, g, rfl, hr6, hrb, hrg, hc6⟩
  have hp6 := hp5.keep hc6 (by simp) (by simp)
  have hq6 := hq5.keep hc6 (by simp) (by simp)
  have hcw6 := hcw5.trans hc6 (by simp)
  have hrw : w.heap.size ≤ r := by omega
  have hgw : w.heap.size ≤ g := by omega
  have hpr : p ≠ r := by have := hp5.lt; omega
  have hqr : q ≠ r := by have := hq5.lt; omega
  have hor : ∀ k, o3 = some k → k ≠ r := by intro k hk; have := hp5.olt k hk; omega
  have hor4 : ∀ k, o4 = some k → k ≠ r := by intro k hk; have := hq5.olt k hk; omega
  clear hp5 hq5 hcw5 hc6 hown5 hrb hrg hs5
  go_wp2_with fail
  have hS := CI.mk hp6 hq6 hr6 hcw6 (H := []) (by simp) hrw hpr hqr hor hor4
  have hS := hS.drew
  clear hp6 hq6 hr6 hcw6 hor hor4
  have hda : rInt (encN (zz a)) = some (.int .i64 a, []) := by
    have := decN_encN (zz a) [] Hla.out
    rw [List.append_nil] at this
    rw [rInt, this]
    simp [unzz_zz]
  have Hda := Lib.hid hda
  have hmono : zz a ≤ zz b → (encN (zz a)).length ≤ (encN (zz b)).length := encN_mono (zz a) (zz b)
  have Hmono := Lib.hid hmono
  clear hda hmono
  have hne : a ≠ b → str (encN (zz a)) ≠ str (encN (zz b)) := by
    intro hab e
    have h1 : (str (encN (zz a))).data.toList = (str (encN (zz b))).data.toList := by rw [e]
    exact hab (zz_inj (encN_inj Hla.out Hlb.out h1))
  have Hne := Lib.hid hne
  clear hne
  by_cases hab : a = b
  · subst hab
    have hq1 : binOp .eql 9 (.string (str (encN (zz a)))) (.string (str (encN (zz a)))) = pure (.bool true) := eql_str_yes _ _
    have hq2 : binOp .eql 2 (.int .i64 a) (.int .i64 a) = pure (.bool true) := eql_int_yes _ _ _
    have hq3 : binOp .gtr 33 (.int .u64 (zz a)) (.int .u64 (zz a)) = pure (.bool false) := gtr_int_no _ _ (by omega)
    have hq4 : binOp .leq 3 (.int .i64 (encN (zz a)).length) (.int .i64 (encN (zz a)).length) = pure (.bool true) := leq_int_yes _ _ (by omega)
    have hT : True := trivial
    refine dr_begin (by kernel_rfl) ?_
    refine dr_take 0 (some 23) (v := ?_) rfl rfl (by kernel_rfl) (by kernel_rfl) (by kernel_rfl) (fun _ _ _ h => h) rfl hT (fun W _ => ?_) ?_
    rotate_left
    · (go_simp; try with_reducible rfl)
    try simp only [Act.put, List.setIfInBounds_toArray, List.set_cons_zero, List.set_cons_succ]
    refine dr_take 3 (some 26) (v := ?_) rfl rfl (by kernel_rfl) (by kernel_rfl) (by kernel_rfl) (fun _ _ _ h => h) rfl hT (fun W _ => ?_) ?_
    rotate_left
    · (go_simp; try with_reducible rfl)
    try simp only [Act.put, List.setIfInBounds_toArray, List.set_cons_zero, List.set_cons_succ]
    refine dr_take 7 (some 30) (v := ?_) rfl rfl (by kernel_rfl) (by kernel_rfl) (by kernel_rfl) (fun _ _ _ h => h) rfl hT (fun W _ => ?_) ?_
    rotate_left
    · (go_simp; try with_reducible rfl)
    try simp only [Act.put, List.setIfInBounds_toArray, List.set_cons_zero, List.set_cons_succ]
    refine dr_take 8 (some 31) (v := ?_) rfl rfl (by kernel_rfl) (by kernel_rfl) (by kernel_rfl) (fun _ _ _ h => h) rfl hT (fun W _ => ?_) ?_
    rotate_left
    · (go_simp; try with_reducible rfl)
    try simp only [Act.put, List.setIfInBounds_toArray, List.set_cons_zero, List.set_cons_succ]
    refine dr_take 9 (some 32) (v := ?_) rfl rfl (by kernel_rfl) (by kernel_rfl) (by kernel_rfl) (fun _ _ _ h => h) rfl hT (fun W _ => ?_) ?_
    rotate_left
    · (go_simp; try with_reducible rfl)
    try simp only [Act.put, List.setIfInBounds_toArray, List.set_cons_zero, List.set_cons_succ]
    refine dr_step 1 rfl (by kernel_rfl) rfl (fun K hK => ?_)
    go_simp
    refine (CI.bytesP hS (by omega)).mono ?_
    rintro e v1 ⟨A1', c1', rfl, hS⟩
    have hT : True := trivial
    refine hK.out _ _ hT ?_
    clear hK K
    try simp only [Act.put, List.setIfInBounds_toArray, List.set_cons_zero, List.set_cons_succ]
    refine dr_more (fun W => (convert 28 9 (.slice A1' (encN (zz a)).length c1')).run Try.prog W = .ok (.string (str (encN (zz a)))) W) ?_
    have hT : True ∧ (convert 28 9 (.slice A1' (encN (zz a)).length c1')).run Try.prog v1 = .ok (.string (str (encN (zz a)))) v1 := ⟨trivial, hS.conv (A1', _, c1', encN (zz a)) (by simp)⟩
    refine dr_take 2 (some 25) (v := ?_) rfl rfl (by kernel_rfl) (by kernel_rfl) (by kernel_rfl) (fun _ _ _ h => h) rfl hT (fun W hW => ?_) ?_
    rotate_left
    · (have h1 := hW.2; go_simp; try with_reducible rfl)
    try simp only [Act.put, List.setIfInBounds_toArray, List.set_cons_zero, List.set_cons_succ]
    refine dr_step 4 rfl (by kernel_rfl) rfl (fun K hK => ?_)
    go_simp
    refine (CI.bytesQ hS (by omega)).mono ?_
    rintro e v2 ⟨A2', c2', rfl, hS⟩
    have hT : True ∧ (convert 28 9 (.slice A1' (encN (zz a)).length c1')).run Try.prog v2 = .ok (.string (str (encN (zz a)))) v2 := ⟨trivial, hS.conv (A1', _, c1', encN (zz a)) (by simp)⟩
    refine hK.out _ _ hT ?_
    clear hK K
    try simp only [Act.put, List.setIfInBounds_toArray, List.set_cons_zero, List.set_cons_succ]
    refine dr_more (fun W => (convert 28 9 (.slice A2' (encN (zz a)).length c2')).run Try.prog W = .ok (.string (str (encN (zz a)))) W) ?_
    have hT : (True ∧ (convert 28 9 (.slice A1' (encN (zz a)).length c1')).run Try.prog v2 = .ok (.string (str (encN (zz a)))) v2) ∧ (convert 28 9 (.slice A2' (encN (zz a)).length c2')).run Try.prog v2 = .ok (.string (str (encN (zz a)))) v2 := ⟨⟨trivial, hS.conv (A1', _, c1', encN (zz a)) (by simp)⟩, hS.conv (A2', _, c2', encN (zz a)) (by simp)⟩
    refine dr_take 5 (some 28) (v := ?_) rfl rfl (by kernel_rfl) (by kernel_rfl) (by kernel_rfl) (fun _ _ _ h => h) rfl hT (fun W hW => ?_) ?_
    rotate_left
    · (have h1 := hW.2; go_simp; try with_reducible rfl)
    try simp only [Act.put, List.setIfInBounds_toArray, List.set_cons_zero, List.set_cons_succ]
    refine dr_take 6 (some 29) (v := ?_) rfl rfl (by kernel_rfl) (by kernel_rfl) (by kernel_rfl) (fun _ _ _ h => h) rfl hT (fun W _ => ?_) ?_
    rotate_left
    · (go_simp; try with_reducible rfl)
    try simp only [Act.put, List.setIfInBounds_toArray, List.set_cons_zero, List.set_cons_succ]
    refine dr_take 10 (some 33) (v := ?_) rfl rfl (by kernel_rfl) (by kernel_rfl) (by kernel_rfl) (fun _ _ _ h => h) rfl hT (fun W _ => ?_) ?_
    rotate_left
    · (go_simp; try with_reducible rfl)
    try simp only [Act.put, List.setIfInBounds_toArray, List.set_cons_zero, List.set_cons_succ]
    refine dr_take 11 (some 34) (v := ?_) rfl rfl (by kernel_rfl) (by kernel_rfl) (by kernel_rfl) (fun _ _ _ h => h) rfl hT (fun W _ => ?_) ?_
    rotate_left
    · (go_simp; try with_reducible rfl)
    try simp only [Act.put, List.setIfInBounds_toArray, List.set_cons_zero, List.set_cons_succ]
    refine dr_take 12 (some 35) (v := ?_) rfl rfl (by kernel_rfl) (by kernel_rfl) (by kernel_rfl) (fun _ _ _ h => h) rfl hT (fun W _ => ?_) ?_
    rotate_left
    · (go_simp; try with_reducible rfl)
    try simp only [Act.put, List.setIfInBounds_toArray, List.set_cons_zero, List.set_cons_succ]
    refine dr_take 14 (some 37) (v := ?_) rfl rfl (by kernel_rfl) (by kernel_rfl) (by kernel_rfl) (fun _ _ _ h => h) rfl hT (fun W _ => ?_) ?_
    rotate_left
    · (go_simp; try with_reducible rfl)
    try simp only [Act.put, List.setIfInBounds_toArray, List.set_cons_zero, List.set_cons_succ]
    refine dr_step 13 rfl (by kernel_rfl) rfl (fun K hK => ?_)
    go_simp
    refine (CI.int' hS Hda.out).mono ?_
    rintro e v3 ⟨rfl, hS⟩
    have hT : (True ∧ (convert 28 9 (.slice A1' (encN (zz a)).length c1')).run Try.prog v3 = .ok (.string (str (encN (zz a)))) v3) ∧ (convert 28 9 (.slice A2' (encN (zz a)).length c2')).run Try.prog v3 = .ok (.string (str (encN (zz a)))) v3 := ⟨⟨trivial, hS.conv (A1', _, c1', encN (zz a)) (by simp)⟩, hS.conv (A2', _, c2', encN (zz a)) (by simp)⟩
    refine hK.out _ _ hT ?_
    clear hK K
    try simp only [Act.put, List.setIfInBounds_toArray, List.set_cons_zero, List.set_cons_succ]
    refine dr_take 15 (some 38) (v := ?_) rfl rfl (by kernel_rfl) (by kernel_rfl) (by kernel_rfl) (fun _ _ _ h => h) rfl hT (fun W _ => ?_) ?_
    rotate_left
    · (go_simp; try with_reducible rfl)
    try simp only [Act.put, List.setIfInBounds_toArray, List.set_cons_zero, List.set_cons_succ]
    refine dr_take 16 (some 39) (v := ?_) rfl rfl (by kernel_rfl) (by kernel_rfl) (by kernel_rfl) (fun _ _ _ h => h) rfl hT (fun W _ => ?_) ?_
    rotate_left
    · (go_simp; try with_reducible rfl)
    try simp only [Act.put, List.setIfInBounds_toArray, List.set_cons_zero, List.set_cons_succ]
    refine dr_take 17 (some 40) (v := ?_) rfl rfl (by kernel_rfl) (by kernel_rfl) (by kernel_rfl) (fun _ _ _ h => h) rfl hT (fun W _ => ?_) ?_
    rotate_left
    · (go_simp; try with_reducible rfl)
    try simp only [Act.put, List.setIfInBounds_toArray, List.set_cons_zero, List.set_cons_succ]
    refine dr_take 18 (some 41) (v := ?_) rfl rfl (by kernel_rfl) (by kernel_rfl) (by kernel_rfl) (fun _ _ _ h => h) rfl hT (fun W _ => ?_) ?_
    rotate_left
    · (go_simp; try with_reducible rfl)
    try simp only [Act.put, List.setIfInBounds_toArray, List.set_cons_zero, List.set_cons_succ]
    refine dr_step 19 rfl (by kernel_rfl) rfl (fun K hK => ?_)
    go_simp
    refine (CI.done' hS).mono ?_
    rintro e v4 ⟨rfl, rfl⟩
    have hT : (True ∧ (convert 28 9 (.slice A1' (encN (zz a)).length c1')).run Try.prog v3 = .ok (.string (str (encN (zz a)))) v3) ∧ (convert 28 9 (.slice A2' (encN (zz a)).length c2')).run Try.prog v3 = .ok (.string (str (encN (zz a)))) v3 := ⟨⟨trivial, hS.conv (A1', _, c1', encN (zz a)) (by simp)⟩, hS.conv (A2', _, c2', encN (zz a)) (by simp)⟩
    refine hK.out _ _ hT ?_
    clear hK K
    try simp only [Act.put, List.setIfInBounds_toArray, List.set_cons_zero, List.set_cons_succ]
    refine dr_take 20 (some 43) (v := ?_) rfl rfl (by kernel_rfl) (by kernel_rfl) (by kernel_rfl) (fun _ _ _ h => h) rfl hT (fun W _ => ?_) ?_
    rotate_left
    · (go_simp; try with_reducible rfl)
    try simp only [Act.put, List.setIfInBounds_toArray, List.set_cons_zero, List.set_cons_succ]
    refine dr_take 21 (some 44) (v := ?_) rfl rfl (by kernel_rfl) (by kernel_rfl) (by kernel_rfl) (fun _ _ _ h => h) rfl hT (fun W _ => ?_) ?_
    rotate_left
    · (go_simp; try with_reducible rfl)
    try simp only [Act.put, List.setIfInBounds_toArray, List.set_cons_zero, List.set_cons_succ]
    refine dr_take 22 (some 45) (v := ?_) rfl rfl (by kernel_rfl) (by kernel_rfl) (by kernel_rfl) (fun _ _ _ h => h) rfl hT (fun W _ => ?_) ?_
    rotate_left
    · (go_simp; try with_reducible rfl)
    try simp only [Act.put, List.setIfInBounds_toArray, List.set_cons_zero, List.set_cons_succ]
    refine dr_take 23 (some 46) (v := ?_) rfl rfl (by kernel_rfl) (by kernel_rfl) (by kernel_rfl) (fun _ _ _ h => h) rfl hT (fun W _ => ?_) ?_
    rotate_left
    · (go_simp; try with_reducible rfl)
    try simp only [Act.put, List.setIfInBounds_toArray, List.set_cons_zero, List.set_cons_succ]
    refine dr_take 25 (some 48) (v := ?_) rfl rfl (by kernel_rfl) (by kernel_rfl) (by kernel_rfl) (fun _ _ _ h => h) rfl hT (fun W _ => ?_) ?_
    rotate_left
    · (go_simp; try with_reducible rfl)
    try simp only [Act.put, List.setIfInBounds_toArray, List.set_cons_zero, List.set_cons_succ]
    refine dr_step 24 rfl (by kernel_rfl) rfl (fun K hK => ?_)
    go_simp
    refine (zig_any _ _ ha0 ha1).mono ?_
    rintro e v4 ⟨rfl, rfl⟩
    have hT : (True ∧ (convert 28 9 (.slice A1' (encN (zz a)).length c1')).run Try.prog v3 = .ok (.string (str (encN (zz a)))) v3) ∧ (convert 28 9 (.slice A2' (encN (zz a)).length c2')).run Try.prog v3 = .ok (.string (str (encN (zz a)))) v3 := ⟨⟨trivial, hS.conv (A1', _, c1', encN (zz a)) (by simp)⟩, hS.conv (A2', _, c2', encN (zz a)) (by simp)⟩
    refine hK.out _ _ hT ?_
    clear hK K
    try simp only [Act.put, List.setIfInBounds_toArray, List.set_cons_zero, List.set_cons_succ]
    refine dr_step 26 rfl (by kernel_rfl) rfl (fun K hK => ?_)
    go_simp
    refine (zig_any _ _ ha0 ha1).mono ?_
    rintro e v4 ⟨rfl, rfl⟩
    have hT : (True ∧ (convert 28 9 (.slice A1' (encN (zz a)).length c1')).run Try.prog v3 = .ok (.string (str (encN (zz a)))) v3) ∧ (convert 28 9 (.slice A2' (encN (zz a)).length c2')).run Try.prog v3 = .ok (.string (str (encN (zz a)))) v3 := ⟨⟨trivial, hS.conv (A1', _, c1', encN (zz a)) (by simp)⟩, hS.conv (A2', _, c2', encN (zz a)) (by simp)⟩
    refine hK.out _ _ hT ?_
    clear hK K
    try simp only [Act.put, List.setIfInBounds_toArray, List.set_cons_zero, List.set_cons_succ]
    refine dr_take 27 (some 50) (v := ?_) rfl rfl (by kernel_rfl) (by kernel_rfl) (by kernel_rfl) (fun _ _ _ h => h) rfl hT (fun W _ => ?_) ?_
    rotate_left
    · (go_simp; try with_reducible rfl)
    try simp only [Act.put, List.setIfInBounds_toArray, List.set_cons_zero, List.set_cons_succ]
    refine dr_take 28 (some 51) (v := ?_) rfl rfl (by kernel_rfl) (by kernel_rfl) (by kernel_rfl) (fun _ _ _ h => h) rfl hT (fun W _ => ?_) ?_
    rotate_left
    · (go_simp; try with_reducible rfl)
    try simp only [Act.put, List.setIfInBounds_toArray, List.set_cons_zero, List.set_cons_succ]
    refine dr_take 29 (some 52) (v := ?_) rfl rfl (by kernel_rfl) (by kernel_rfl) (by kernel_rfl) (fun _ _ _ h => h) rfl hT (fun W _ => ?_) ?_
    rotate_left
    · (go_simp; try with_reducible rfl)
    try simp only [Act.put, List.setIfInBounds_toArray, List.set_cons_zero, List.set_cons_succ]
    refine dr_take 32 (some 55) (v := ?_) rfl rfl (by kernel_rfl) (by kernel_rfl) (by kernel_rfl) (fun _ _ _ h => h) rfl hT (fun W _ => ?_) ?_
    rotate_left
    · (go_simp; try with_reducible rfl)
    try simp only [Act.put, List.setIfInBounds_toArray, List.set_cons_zero, List.set_cons_succ]
    refine dr_step 30 rfl (by kernel_rfl) rfl (fun K hK => ?_)
    go_simp
    refine (CI.bytesP hS (by omega)).mono ?_
    rintro e v5 ⟨A5', c5', rfl, hS⟩
    have hT : (True ∧ (convert 28 9 (.slice A1' (encN (zz a)).length c1')).run Try.prog v5 = .ok (.string (str (encN (zz a)))) v5) ∧ (convert 28 9 (.slice A2' (encN (zz a)).length c2')).run Try.prog v5 = .ok (.string (str (encN (zz a)))) v5 := ⟨⟨trivial, hS.conv (A1', _, c1', encN (zz a)) (by simp)⟩, hS.conv (A2', _, c2', encN (zz a)) (by simp)⟩
    refine hK.out _ _ hT ?_
    clear hK K
    try simp only [Act.put, List.setIfInBounds_toArray, List.set_cons_zero, List.set_cons_succ]
    refine dr_take 31 (some 54) (v := ?_) rfl rfl (by kernel_rfl) (by kernel_rfl) (by kernel_rfl) (fun _ _ _ h => h) rfl hT (fun W _ => ?_) ?_
    rotate_left
    · (go_simp; try with_reducible rfl)
    try simp only [Act.put, List.setIfInBounds_toArray, List.set_cons_zero, List.set_cons_succ]
    refine dr_step 33 rfl (by kernel_rfl) rfl (fun K hK => ?_)
    go_simp
    refine (CI.bytesQ hS (by omega)).mono ?_
    rintro e v6 ⟨A6', c6', rfl, hS⟩
    have hT : (True ∧ (convert 28 9 (.slice A1' (encN (zz a)).length c1')).run Try.prog v6 = .ok (.string (str (encN (zz a)))) v6) ∧ (convert 28 9 (.slice A2' (encN (zz a)).length c2')).run Try.prog v6 = .ok (.string (str (encN (zz a)))) v6 := ⟨⟨trivial, hS.conv (A1', _, c1', encN (zz a)) (by simp)⟩, hS.conv (A2', _, c2', encN (zz a)) (by simp)⟩
    refine hK.out _ _ hT ?_
    clear hK K
    try simp only [Act.put, List.setIfInBounds_toArray, List.set_cons_zero, List.set_cons_succ]
    refine dr_take 34 (some 57) (v := ?_) rfl rfl (by kernel_rfl) (by kernel_rfl) (by kernel_rfl) (fun _ _ _ h => h) rfl hT (fun W _ => ?_) ?_
    rotate_left
    · (go_simp; try with_reducible rfl)
    try simp only [Act.put, List.setIfInBounds_toArray, List.set_cons_zero, List.set_cons_succ]
    refine dr_take 35 (some 58) (v := ?_) rfl rfl (by kernel_rfl) (by kernel_rfl) (by kernel_rfl) (fun _ _ _ h => h) rfl hT (fun W _ => ?_) ?_
    rotate_left
    · (go_simp; try with_reducible rfl)
    try simp only [Act.put, List.setIfInBounds_toArray, List.set_cons_zero, List.set_cons_succ]
    refine dr_take 36 (some 59) (v := ?_) rfl rfl (by kernel_rfl) (by kernel_rfl) (by kernel_rfl) (fun _ _ _ h => h) rfl hT (fun W _ => ?_) ?_
    rotate_left
    · (go_simp; try with_reducible rfl)
    try simp only [Act.put, List.setIfInBounds_toArray, List.set_cons_zero, List.set_cons_succ]
    refine dr_take 37 (some 60) (v := ?_) rfl rfl (by kernel_rfl) (by kernel_rfl) (by kernel_rfl) (fun _ _ _ h => h) rfl hT (fun W _ => ?_) ?_
    rotate_left
    · (go_simp; try with_reducible rfl)
    try simp only [Act.put, List.setIfInBounds_toArray, List.set_cons_zero, List.set_cons_succ]
    refine dr_take 38 (some 4) (v := ?_) rfl rfl (by kernel_rfl) (by kernel_rfl) (by kernel_rfl) (fun _ _ _ h => h) rfl hT (fun W _ => ?_) ?_
    rotate_left
    · (go_simp; try with_reducible rfl)
    try simp only [Act.put, List.setIfInBounds_toArray, List.set_cons_zero, List.set_cons_succ]
    refine dr_done (by kernel_rfl) ?_
    go_wp2
    go_ret
    exact ⟨rfl, hS.ch⟩
  · have hn1 := Hne.out hab
    have hq1 : binOp .eql 9 (.string (str (encN (zz a)))) (.string (str (encN (zz b)))) = pure (.bool false) := eql_str_no _ hn1
    have hq2 : binOp .eql 2 (.int .i64 a) (.int .i64 b) = pure (.bool false) := eql_int_no _ _ hab
    have hq5 : binOp .eql 2 (.int .i64 a) (.int .i64 a) = pure (.bool true) := eql_int_yes _ _ _
    clear hn1 hab
    by_cases hz : zz b < zz a
    · have hq3 : binOp .gtr 33 (.int .u64 (zz a)) (.int .u64 (zz b)) = pure (.bool true) := gtr_int_yes _ _ (by omega)
      clear hz
      have hT : True := trivial
      refine dr_begin (by kernel_rfl) ?_
      refine dr_take 0 (some 23) (v := ?_) rfl rfl (by kernel_rfl) (by kernel_rfl) (by kernel_rfl) (fun _ _ _ h => h) rfl hT (fun W _ => ?_) ?_
      rotate_left
      · (go_simp; try with_reducible rfl)
      try simp only [Act.put, List.setIfInBounds_toArray, List.set_cons_zero, List.set_cons_succ]
      refine dr_take 3 (some 26) (v := ?_) rfl rfl (by kernel_rfl) (by kernel_rfl) (by kernel_rfl) (fun _ _ _ h => h) rfl hT (fun W _ => ?_) ?_
      rotate_left
      · (go_simp; try with_reducible rfl)
      try simp only [Act.put, List.setIfInBounds_toArray, List.set_cons_zero, List.set_cons_succ]
      refine dr_take 7 (some 30) (v := ?_) rfl rfl (by kernel_rfl) (by kernel_rfl) (by kernel_rfl) (fun _ _ _ h => h) rfl hT (fun W _ => ?_) ?_
      rotate_left
      · (go_simp; try with_reducible rfl)
      try simp only [Act.put, List.setIfInBounds_toArray, List.set_cons_zero, List.set_cons_succ]
      refine dr_take 8 (some 31) (v := ?_) rfl rfl (by kernel_rfl) (by kernel_rfl) (by kernel_rfl) (fun _ _ _ h => h) rfl hT (fun W _ => ?_) ?_
      rotate_left
      · (go_simp; try with_reducible rfl)
      try simp only [Act.put, List.setIfInBounds_toArray, List.set_cons_zero, List.set_cons_succ]
      refine dr_take 9 (some 32) (v := ?_) rfl rfl (by kernel_rfl) (by kernel_rfl) (by kernel_rfl) (fun _ _ _ h => h) rfl hT (fun W _ => ?_) ?_
      rotate_left
      · (go_simp; try with_reducible rfl)
      try simp only [Act.put, List.setIfInBounds_toArray, List.set_cons_zero, List.set_cons_succ]
      refine dr_step 1 rfl (by kernel_rfl) rfl (fun K hK => ?_)
      go_simp
      refine (CI.bytesP hS (by omega)).mono ?_
      rintro e v1 ⟨A1', c1', rfl, hS⟩
      have hT : True := trivial
      refine hK.out _ _ hT ?_
      clear hK K
      try simp only [Act.put, List.setIfInBounds_toArray, List.set_cons_zero, List.set_cons_succ]
      refine dr_more (fun W => (convert 28 9 (.slice A1' (encN (zz a)).length c1')).run Try.prog W = .ok (.string (str (encN (zz a)))) W) ?_
      have hT : True ∧ (convert 28 9 (.slice A1' (encN (zz a)).length c1')).run Try.prog v1 = .ok (.string (str (encN (zz a)))) v1 := ⟨trivial, hS.conv (A1', _, c1', encN (zz a)) (by simp)⟩
      refine dr_take 2 (some 25) (v := ?_) rfl rfl (by kernel_rfl) (by kernel_rfl) (by kernel_rfl) (fun _ _ _ h => h) rfl hT (fun W hW => ?_) ?_
      rotate_left
      · (have h1 := hW.2; go_simp; try with_reducible rfl)
      try simp only [Act.put, List.setIfInBounds_toArray, List.set_cons_zero, List.set_cons_succ]
      refine dr_step 4 rfl (by kernel_rfl) rfl (fun K hK => ?_)
      go_simp
      refine (CI.bytesQ hS (by omega)).mono ?_
      rintro e v2 ⟨A2', c2', rfl, hS⟩
      have hT : True ∧ (convert 28 9 (.slice A1' (encN (zz a)).length c1')).run Try.prog v2 = .ok (.string (str (encN (zz a)))) v2 := ⟨trivial, hS.conv (A1', _, c1', encN (zz a)) (by simp)⟩
      refine hK.out _ _ hT ?_
      clear hK K
      try simp only [Act.put, List.setIfInBounds_toArray, List.set_cons_zero, List.set_cons_succ]
      refine dr_more (fun W => (convert 28 9 (.slice A2' (encN (zz b)).length c2')).run Try.prog W = .ok (.string (str (encN (zz b)))) W) ?_
      have hT : (True ∧ (convert 28 9 (.slice A1' (encN (zz a)).length c1')).run Try.prog v2 = .ok (.string (str (encN (zz a)))) v2) ∧ (convert 28 9 (.slice A2' (encN (zz b)).length c2')).run Try.prog v2 = .ok (.string (str (encN (zz b)))) v2 := ⟨⟨trivial, hS.conv (A1', _, c1', encN (zz a)) (by simp)⟩, hS.conv (A2', _, c2', encN (zz b)) (by simp)⟩
      refine dr_take 5 (some 28) (v := ?_) rfl rfl (by kernel_rfl) (by kernel_rfl) (by kernel_rfl) (fun _ _ _ h => h) rfl hT (fun W hW => ?_) ?_
      rotate_left
      · (have h1 := hW.2; go_simp; try with_reducible rfl)
      try simp only [Act.put, List.setIfInBounds_toArray, List.set_cons_zero, List.set_cons_succ]
      refine dr_take 6 (some 29) (v := ?_) rfl rfl (by kernel_rfl) (by kernel_rfl) (by kernel_rfl) (fun _ _ _ h => h) rfl hT (fun W _ => ?_) ?_
      rotate_left
      · (go_simp; try with_reducible rfl)
      try simp only [Act.put, List.setIfInBounds_toArray, List.set_cons_zero, List.set_cons_succ]
      refine dr_take 10 (some 33) (v := ?_) rfl rfl (by kernel_rfl) (by kernel_rfl) (by kernel_rfl) (fun _ _ _ h => h) rfl hT (fun W _ => ?_) ?_
      rotate_left
      · (go_simp; try with_reducible rfl)
      try simp only [Act.put, List.setIfInBounds_toArray, List.set_cons_zero, List.set_cons_succ]
      refine dr_take 11 (some 34) (v := ?_) rfl rfl (by kernel_rfl) (by kernel_rfl) (by kernel_rfl) (fun _ _ _ h => h) rfl hT (fun W _ => ?_) ?_
      rotate_left
      · (go_simp; try with_reducible rfl)
      try simp only [Act.put, List.setIfInBounds_toArray, List.set_cons_zero, List.set_cons_succ]
      refine dr_take 12 (some 35) (v := ?_) rfl rfl (by kernel_rfl) (by kernel_rfl) (by kernel_rfl) (fun _ _ _ h => h) rfl hT (fun W _ => ?_) ?_
      rotate_left
      · (go_simp; try with_reducible rfl)
      try simp only [Act.put, List.setIfInBounds_toArray, List.set_cons_zero, List.set_cons_succ]
      refine dr_take 14 (some 37) (v := ?_) rfl rfl (by kernel_rfl) (by kernel_rfl) (by kernel_rfl) (fun _ _ _ h => h) rfl hT (fun W _ => ?_) ?_
      rotate_left
      · (go_simp; try with_reducible rfl)
      try simp only [Act.put, List.setIfInBounds_toArray, List.set_cons_zero, List.set_cons_succ]
      refine dr_step 13 rfl (by kernel_rfl) rfl (fun K hK => ?_)
      go_simp
      refine (CI.int' hS Hda.out).mono ?_
      rintro e v3 ⟨rfl, hS⟩
      have hT : (True ∧ (convert 28 9 (.slice A1' (encN (zz a)).length c1')).run Try.prog v3 = .ok (.string (str (encN (zz a)))) v3) ∧ (convert 28 9 (.slice A2' (encN (zz b)).length c2')).run Try.prog v3 = .ok (.string (str (encN (zz b)))) v3 := ⟨⟨trivial, hS.conv (A1', _, c1', encN (zz a)) (by simp)⟩, hS.conv (A2', _, c2', encN (zz b)) (by simp)⟩
      refine hK.out _ _ hT ?_
      clear hK K
      try simp only [Act.put, List.setIfInBounds_toArray, List.set_cons_zero, List.set_cons_succ]
      refine dr_take 15 (some 38) (v := ?_) rfl rfl (by kernel_rfl) (by kernel_rfl) (by kernel_rfl) (fun _ _ _ h => h) rfl hT (fun W _ => ?_) ?_
      rotate_left
      · (go_simp; try with_reducible rfl)
      try simp only [Act.put, List.setIfInBounds_toArray, List.set_cons_zero, List.set_cons_succ]
      refine dr_take 16 (some 39) (v := ?_) rfl rfl (by kernel_rfl) (by kernel_rfl) (by kernel_rfl) (fun _ _ _ h => h) rfl hT (fun W _ => ?_) ?_
      rotate_left
      · (go_simp; try with_reducible rfl)
      try simp only [Act.put, List.setIfInBounds_toArray, List.set_cons_zero, List.set_cons_succ]
      refine dr_take 17 (some 40) (v := ?_) rfl rfl (by kernel_rfl) (by kernel_rfl) (by kernel_rfl) (fun _ _ _ h => h) rfl hT (fun W _ => ?_) ?_
      rotate_left
      · (go_simp; try with_reducible rfl)
      try simp only [Act.put, List.setIfInBounds_toArray, List.set_cons_zero, List.set_cons_succ]
      refine dr_take 18 (some 41) (v := ?_) rfl rfl (by kernel_rfl) (by kernel_rfl) (by kernel_rfl) (fun _ _ _ h => h) rfl hT (fun W _ => ?_) ?_
      rotate_left
      · (go_simp; try with_reducible rfl)
      try simp only [Act.put, List.setIfInBounds_toArray, List.set_cons_zero, List.set_cons_succ]
      refine dr_step 19 rfl (by kernel_rfl) rfl (fun K hK => ?_)
      go_simp
      refine (CI.done' hS).mono ?_
      rintro e v4 ⟨rfl, rfl⟩
      have hT : (True ∧ (convert 28 9 (.slice A1' (encN (zz a)).length c1')).run Try.prog v3 = .ok (.string (str (encN (zz a)))) v3) ∧ (convert 28 9 (.slice A2' (encN (zz b)).length c2')).run Try.prog v3 = .ok (.string (str (encN (zz b)))) v3 := ⟨⟨trivial, hS.conv (A1', _, c1', encN (zz a)) (by simp)⟩, hS.conv (A2', _, c2', encN (zz b)) (by simp)⟩
      refine hK.out _ _ hT ?_
      clear hK K
      try simp only [Act.put, List.setIfInBounds_toArray, List.set_cons_zero, List.set_cons_succ]
      refine dr_take 20 (some 43) (v := ?_) rfl rfl (by kernel_rfl) (by kernel_rfl) (by kernel_rfl) (fun _ _ _ h => h) rfl hT (fun W _ => ?_) ?_
      rotate_left
      · (go_simp; try with_reducible rfl)
      try simp only [Act.put, List.setIfInBounds_toArray, List.set_cons_zero, List.set_cons_succ]
      refine dr_take 21 (some 44) (v := ?_) rfl rfl (by kernel_rfl) (by kernel_rfl) (by kernel_rfl) (fun _ _ _ h => h) rfl hT (fun W _ => ?_) ?_
      rotate_left
      · (go_simp; try with_reducible rfl)
      try simp only [Act.put, List.setIfInBounds_toArray, List.set_cons_zero, List.set_cons_succ]
      refine dr_take 22 (some 45) (v := ?_) rfl rfl (by kernel_rfl) (by kernel_rfl) (by kernel_rfl) (fun _ _ _ h => h) rfl hT (fun W _ => ?_) ?_
      rotate_left
      · (go_simp; try with_reducible rfl)
      try simp only [Act.put, List.setIfInBounds_toArray, List.set_cons_zero, List.set_cons_succ]
      refine dr_take 23 (some 46) (v := ?_) rfl rfl (by kernel_rfl) (by kernel_rfl) (by kernel_rfl) (fun _ _ _ h => h) rfl hT (fun W _ => ?_) ?_
      rotate_left
      · (go_simp; try with_reducible rfl)
      try simp only [Act.put, List.setIfInBounds_toArray, List.set_cons_zero, List.set_cons_succ]
      refine dr_take 25 (some 48) (v := ?_) rfl rfl (by kernel_rfl) (by kernel_rfl) (by kernel_rfl) (fun _ _ _ h => h) rfl hT (fun W _ => ?_) ?_
      rotate_left
      · (go_simp; try with_reducible rfl)
      try simp only [Act.put, List.setIfInBounds_toArray, List.set_cons_zero, List.set_cons_succ]
      refine dr_step 24 rfl (by kernel_rfl) rfl (fun K hK => ?_)
      go_simp
      refine (zig_any _ _ ha0 ha1).mono ?_
      rintro e v4 ⟨rfl, rfl⟩
      have hT : (True ∧ (convert 28 9 (.slice A1' (encN (zz a)).length c1')).run Try.prog v3 = .ok (.string (str (encN (zz a)))) v3) ∧ (convert 28 9 (.slice A2' (encN (zz b)).length c2')).run Try.prog v3 = .ok (.string (str (encN (zz b)))) v3 := ⟨⟨trivial, hS.conv (A1', _, c1', encN (zz a)) (by simp)⟩, hS.conv (A2', _, c2', encN (zz b)) (by simp)⟩
      refine hK.out _ _ hT ?_
      clear hK K
      try simp only [Act.put, List.setIfInBounds_toArray, List.set_cons_zero, List.set_cons_succ]
      refine dr_step 26 rfl (by kernel_rfl) rfl (fun K hK => ?_)
      go_simp
      refine (zig_any _ _ hb0 hb1).mono ?_
      rintro e v4 ⟨rfl, rfl⟩
      have hT : (True ∧ (convert 28 9 (.slice A1' (encN (zz a)).length c1')).run Try.prog v3 = .ok (.string (str (encN (zz a)))) v3) ∧ (convert 28 9 (.slice A2' (encN (zz b)).length c2')).run Try.prog v3 = .ok (.string (str (encN (zz b)))) v3 := ⟨⟨trivial, hS.conv (A1', _, c1', encN (zz a)) (by simp)⟩, hS.conv (A2', _, c2', encN (zz b)) (by simp)⟩
      refine hK.out _ _ hT ?_
      clear hK K
      try simp only [Act.put, List.setIfInBounds_toArray, List.set_cons_zero, List.set_cons_succ]
      refine dr_take 27 (some 50) (v := ?_) rfl rfl (by kernel_rfl) (by kernel_rfl) (by kernel_rfl) (fun _ _ _ h => h) rfl hT (fun W _ => ?_) ?_
      rotate_left
      · (go_simp; try with_reducible rfl)
      try simp only [Act.put, List.setIfInBounds_toArray, List.set_cons_zero, List.set_cons_succ]
      refine dr_take 28 (some 51) (v := ?_) rfl rfl (by kernel_rfl) (by kernel_rfl) (by kernel_rfl) (fun _ _ _ h => h) rfl hT (fun W _ => ?_) ?_
      rotate_left
      · (go_simp; try with_reducible rfl)
      try simp only [Act.put, List.setIfInBounds_toArray, List.set_cons_zero, List.set_cons_succ]
      refine dr_skip 29 (some 52) rfl rfl (by kernel_rfl) (by kernel_rfl) (by kernel_rfl) (fun _ _ _ h => h) rfl hT ?_
      try simp only [Act.put, List.setIfInBounds_toArray, List.set_cons_zero, List.set_cons_succ]
      refine dr_skip 30 (some 53) rfl rfl (by kernel_rfl) (by kernel_rfl) (by kernel_rfl) (fun _ _ _ h => h) rfl hT ?_
      try simp only [Act.put, List.setIfInBounds_toArray, List.set_cons_zero, List.set_cons_succ]
      refine dr_skip 31 (some 54) rfl rfl (by kernel_rfl) (by kernel_rfl) (by kernel_rfl) (fun _ _ _ h => h) rfl hT ?_
      try simp only [Act.put, List.setIfInBounds_toArray, List.set_cons_zero, List.set_cons_succ]
      refine dr_skip 32 (some 55) rfl rfl (by kernel_rfl) (by kernel_rfl) (by kernel_rfl) (fun _ _ _ h => h) rfl hT ?_
      try simp only [Act.put, List.setIfInBounds_toArray, List.set_cons_zero, List.set_cons_succ]
      refine dr_skip 33 (some 56) rfl rfl (by kernel_rfl) (by kernel_rfl) (by kernel_rfl) (fun _ _ _ h => h) rfl hT ?_
      try simp only [Act.put, List.setIfInBounds_toArray, List.set_cons_zero, List.set_cons_succ]
      refine dr_skip 34 (some 57) rfl rfl (by kernel_rfl) (by kernel_rfl) (by kernel_rfl) (fun _ _ _ h => h) rfl hT ?_
      try simp only [Act.put, List.setIfInBounds_toArray, List.set_cons_zero, List.set_cons_succ]
      refine dr_skip 35 (some 58) rfl rfl (by kernel_rfl) (by kernel_rfl) (by kernel_rfl) (fun _ _ _ h => h) rfl hT ?_
      try simp only [Act.put, List.setIfInBounds_toArray, List.set_cons_zero, List.set_cons_succ]
      refine dr_take 36 (some 59) (v := ?_) rfl rfl (by kernel_rfl) (by kernel_rfl) (by kernel_rfl) (fun _ _ _ h => h) rfl hT (fun W _ => ?_) ?_
      rotate_left
      · (go_simp; try with_reducible rfl)
      try simp only [Act.put, List.setIfInBounds_toArray, List.set_cons_zero, List.set_cons_succ]
      refine dr_take 37 (some 60) (v := ?_) rfl rfl (by kernel_rfl) (by kernel_rfl) (by kernel_rfl) (fun _ _ _ h => h) rfl hT (fun W _ => ?_) ?_
      rotate_left
      · (go_simp; try with_reducible rfl)
      try simp only [Act.put, List.setIfInBounds_toArray, List.set_cons_zero, List.set_cons_succ]
      refine dr_take 38 (some 4) (v := ?_) rfl rfl (by kernel_rfl) (by kernel_rfl) (by kernel_rfl) (fun _ _ _ h => h) rfl hT (fun W _ => ?_) ?_
      rotate_left
      · (go_simp; try with_reducible rfl)
      try simp only [Act.put, List.setIfInBounds_toArray, List.set_cons_zero, List.set_cons_succ]
      refine dr_done (by kernel_rfl) ?_
      go_wp2
      go_ret
      exact ⟨rfl, hS.ch⟩
    · have hq3 : binOp .gtr 33 (.int .u64 (zz a)) (.int .u64 (zz b)) = pure (.bool false) := gtr_int_no _ _ (by omega)
      have hl : (encN (zz a)).length ≤ (encN (zz b)).length := Hmono.out (by omega)
      have hq4 : binOp .leq 3 (.int .i64 (encN (zz a)).length) (.int .i64 (encN (zz b)).length) = pure (.bool true) := leq_int_yes _ _ (by omega)
      clear hz hl
      have hT : True := trivial
      refine dr_begin (by kernel_rfl) ?_
      refine dr_take 0 (some 23) (v := ?_) rfl rfl (by kernel_rfl) (by kernel_rfl) (by kernel_rfl) (fun _ _ _ h => h) rfl hT (fun W _ => ?_) ?_
      rotate_left
      · (go_simp; try with_reducible rfl)
      try simp only [Act.put, List.setIfInBounds_toArray, List.set_cons_zero, List.set_cons_succ]
      refine dr_take 3 (some 26) (v := ?_) rfl rfl (by kernel_rfl) (by kernel_rfl) (by kernel_rfl) (fun _ _ _ h => h) rfl hT (fun W _ => ?_) ?_
      rotate_left
      · (go_simp; try with_reducible rfl)
      try simp only [Act.put, List.setIfInBounds_toArray, List.set_cons_zero, List.set_cons_succ]
      refine dr_take 7 (some 30) (v := ?_) rfl rfl (by kernel_rfl) (by kernel_rfl) (by kernel_rfl) (fun _ _ _ h => h) rfl hT (fun W _ => ?_) ?_
      rotate_left
      · (go_simp; try with_reducible rfl)
      try simp only [Act.put, List.setIfInBounds_toArray, List.set_cons_zero, List.set_cons_succ]
      refine dr_take 8 (some 31) (v := ?_) rfl rfl (by kernel_rfl) (by kernel_rfl) (by kernel_rfl) (fun _ _ _ h => h) rfl hT (fun W _ => ?_) ?_
      rotate_left
      · (go_simp; try with_reducible rfl)
      try simp only [Act.put, List.setIfInBounds_toArray, List.set_cons_zero, List.set_cons_succ]
      refine dr_take 9 (some 32) (v := ?_) rfl rfl (by kernel_rfl) (by kernel_rfl) (by kernel_rfl) (fun _ _ _ h => h) rfl hT (fun W _ => ?_) ?_
      rotate_left
      · (go_simp; try with_reducible rfl)
      try simp only [Act.put, List.setIfInBounds_toArray, List.set_cons_zero, List.set_cons_succ]
      refine dr_step 1 rfl (by kernel_rfl) rfl (fun K hK => ?_)
      go_simp
      refine (CI.bytesP hS (by omega)).mono ?_
      rintro e v1 ⟨A1', c1', rfl, hS⟩
      have hT : True := trivial
      refine hK.out _ _ hT ?_
      clear hK K
      try simp only [Act.put, List.setIfInBounds_toArray, List.set_cons_zero, List.set_cons_succ]
      refine dr_more (fun W => (convert 28 9 (.slice A1' (encN (zz a)).length c1')).run Try.prog W = .ok (.string (str (encN (zz a)))) W) ?_
      have hT : True ∧ (convert 28 9 (.slice A1' (encN (zz a)).length c1')).run Try.prog v1 = .ok (.string (str (encN (zz a)))) v1 := ⟨trivial, hS.conv (A1', _, c1', encN (zz a)) (by simp)⟩
      refine dr_take 2 (some 25) (v := ?_) rfl rfl (by kernel_rfl) (by kernel_rfl) (by kernel_rfl) (fun _ _ _ h => h) rfl hT (fun W hW => ?_) ?_
      rotate_left
      · (have h1 := hW.2; go_simp; try with_reducible rfl)
      try simp only [Act.put, List.setIfInBounds_toArray, List.set_cons_zero, List.set_cons_succ]
      refine dr_step 4 rfl (by kernel_rfl) rfl (fun K hK => ?_)
      go_simp
      refine (CI.bytesQ hS (by omega)).mono ?_
      rintro e v2 ⟨A2', c2', rfl, hS⟩
      have hT : True ∧ (convert 28 9 (.slice A1' (encN (zz a)).length c1')).run Try.prog v2 = .ok (.string (str (encN (zz a)))) v2 := ⟨trivial, hS.conv (A1', _, c1', encN (zz a)) (by simp)⟩
      refine hK.out _ _ hT ?_
      clear hK K
      try simp only [Act.put, List.setIfInBounds_toArray, List.set_cons_zero, List.set_cons_succ]
      refine dr_more (fun W => (convert 28 9 (.slice A2' (encN (zz b)).length c2')).run Try.prog W = .ok (.string (str (encN (zz b)))) W) ?_
      have hT : (True ∧ (convert 28 9 (.slice A1' (encN (zz a)).length c1')).run Try.prog v2 = .ok (.string (str (encN (zz a)))) v2) ∧ (convert 28 9 (.slice A2' (encN (zz b)).length c2')).run Try.prog v2 = .ok (.string (str (encN (zz b)))) v2 := ⟨⟨trivial, hS.conv (A1', _, c1', encN (zz a)) (by simp)⟩, hS.conv (A2', _, c2', encN (zz b)) (by simp)⟩
      refine dr_take 5 (some 28) (v := ?_) rfl rfl (by kernel_rfl) (by kernel_rfl) (by kernel_rfl) (fun _ _ _ h => h) rfl hT (fun W hW => ?_) ?_
      rotate_left
      · (have h1 := hW.2; go_simp; try with_reducible rfl)
      try simp only [Act.put, List.setIfInBounds_toArray, List.set_cons_zero, List.set_cons_succ]
      refine dr_take 6 (some 29) (v := ?_) rfl rfl (by kernel_rfl) (by kernel_rfl) (by kernel_rfl) (fun _ _ _ h => h) rfl hT (fun W _ => ?_) ?_
      rotate_left
      · (go_simp; try with_reducible rfl)
      try simp only [Act.put, List.setIfInBounds_toArray, List.set_cons_zero, List.set_cons_succ]
      refine dr_take 10 (some 33) (v := ?_) rfl rfl (by kernel_rfl) (by kernel_rfl) (by kernel_rfl) (fun _ _ _ h => h) rfl hT (fun W _ => ?_) ?_
      rotate_left
      · (go_simp; try with_reducible rfl)
      try simp only [Act.put, List.setIfInBounds_toArray, List.set_cons_zero, List.set_cons_succ]
      refine dr_take 11 (some 34) (v := ?_) rfl rfl (by kernel_rfl) (by kernel_rfl) (by kernel_rfl) (fun _ _ _ h => h) rfl hT (fun W _ => ?_) ?_
      rotate_left
      · (go_simp; try with_reducible rfl)
      try simp only [Act.put, List.setIfInBounds_toArray, List.set_cons_zero, List.set_cons_succ]
      refine dr_take 12 (some 35) (v := ?_) rfl rfl (by kernel_rfl) (by kernel_rfl) (by kernel_rfl) (fun _ _ _ h => h) rfl hT (fun W _ => ?_) ?_
      rotate_left
      · (go_simp; try with_reducible rfl)
      try simp only [Act.put, List.setIfInBounds_toArray, List.set_cons_zero, List.set_cons_succ]
      refine dr_take 14 (some 37) (v := ?_) rfl rfl (by kernel_rfl) (by kernel_rfl) (by kernel_rfl) (fun _ _ _ h => h) rfl hT (fun W _ => ?_) ?_
      rotate_left
      · (go_simp; try with_reducible rfl)
      try simp only [Act.put, List.setIfInBounds_toArray, List.set_cons_zero, List.set_cons_succ]
      refine dr_step 13 rfl (by kernel_rfl) rfl (fun K hK => ?_)
      go_simp
      refine (CI.int' hS Hda.out).mono ?_
      rintro e v3 ⟨rfl, hS⟩
      have hT : (True ∧ (convert 28 9 (.slice A1' (encN (zz a)).length c1')).run Try.prog v3 = .ok (.string (str (encN (zz a)))) v3) ∧ (convert 28 9 (.slice A2' (encN (zz b)).length c2')).run Try.prog v3 = .ok (.string (str (encN (zz b)))) v3 := ⟨⟨trivial, hS.conv (A1', _, c1', encN (zz a)) (by simp)⟩, hS.conv (A2', _, c2', encN (zz b)) (by simp)⟩
      refine hK.out _ _ hT ?_
      clear hK K
      try simp only [Act.put, List.setIfInBounds_toArray, List.set_cons_zero, List.set_cons_succ]
      refine dr_take 15 (some 38) (v := ?_) rfl rfl (by kernel_rfl) (by kernel_rfl) (by kernel_rfl) (fun _ _ _ h => h) rfl hT (fun W _ => ?_) ?_
      rotate_left
      · (go_simp; try with_reducible rfl)
      try simp only [Act.put, List.setIfInBounds_toArray, List.set_cons_zero, List.set_cons_succ]
      refine dr_take 16 (some 39) (v := ?_) rfl rfl (by kernel_rfl) (by kernel_rfl) (by kernel_rfl) (fun _ _ _ h => h) rfl hT (fun W _ => ?_) ?_
      rotate_left
      · (go_simp; try with_reducible rfl)
      try simp only [Act.put, List.setIfInBounds_toArray, List.set_cons_zero, List.set_cons_succ]
      refine dr_take 17 (some 40) (v := ?_) rfl rfl (by kernel_rfl) (by kernel_rfl) (by kernel_rfl) (fun _ _ _ h => h) rfl hT (fun W _ => ?_) ?_
      rotate_left
      · (go_simp; try with_reducible rfl)
      try simp only [Act.put, List.setIfInBounds_toArray, List.set_cons_zero, List.set_cons_succ]
      refine dr_take 18 (some 41) (v := ?_) rfl rfl (by kernel_rfl) (by kernel_rfl) (by kernel_rfl) (fun _ _ _ h => h) rfl hT (fun W _ => ?_) ?_
      rotate_left
      · (go_simp; try with_reducible rfl)
      try simp only [Act.put, List.setIfInBounds_toArray, List.set_cons_zero, List.set_cons_succ]
      refine dr_step 19 rfl (by kernel_rfl) rfl (fun K hK => ?_)
      go_simp
      refine (CI.done' hS).mono ?_
      rintro e v4 ⟨rfl, rfl⟩
      have hT : (True ∧ (convert 28 9 (.slice A1' (encN (zz a)).length c1')).run Try.prog v3 = .ok (.string (str (encN (zz a)))) v3) ∧ (convert 28 9 (.slice A2' (encN (zz b)).length c2')).run Try.prog v3 = .ok (.string (str (encN (zz b)))) v3 := ⟨⟨trivial, hS.conv (A1', _, c1', encN (zz a)) (by simp)⟩, hS.conv (A2', _, c2', encN (zz b)) (by simp)⟩
      refine hK.out _ _ hT ?_
      clear hK K
      try simp only [Act.put, List.setIfInBounds_toArray, List.set_cons_zero, List.set_cons_succ]
      refine dr_take 20 (some 43) (v := ?_) rfl rfl (by kernel_rfl) (by kernel_rfl) (by kernel_rfl) (fun _ _ _ h => h) rfl hT (fun W _ => ?_) ?_
      rotate_left
      · (go_simp; try with_reducible rfl)
      try simp only [Act.put, List.setIfInBounds_toArray, List.set_cons_zero, List.set_cons_succ]
      refine dr_take 21 (some 44) (v := ?_) rfl rfl (by kernel_rfl) (by kernel_rfl) (by kernel_rfl) (fun _ _ _ h => h) rfl hT (fun W _ => ?_) ?_
      rotate_left
      · (go_simp; try with_reducible rfl)
      try simp only [Act.put, List.setIfInBounds_toArray, List.set_cons_zero, List.set_cons_succ]
      refine dr_take 22 (some 45) (v := ?_) rfl rfl (by kernel_rfl) (by kernel_rfl) (by kernel_rfl) (fun _ _ _ h => h) rfl hT (fun W _ => ?_) ?_
      rotate_left
      · (go_simp; try with_reducible rfl)
      try simp only [Act.put, List.setIfInBounds_toArray, List.set_cons_zero, List.set_cons_succ]
      refine dr_take 23 (some 46) (v := ?_) rfl rfl (by kernel_rfl) (by kernel_rfl) (by kernel_rfl) (fun _ _ _ h => h) rfl hT (fun W _ => ?_) ?_
      rotate_left
      · (go_simp; try with_reducible rfl)
      try simp only [Act.put, List.setIfInBounds_toArray, List.set_cons_zero, List.set_cons_succ]
      refine dr_take 25 (some 48) (v := ?_) rfl rfl (by kernel_rfl) (by kernel_rfl) (by kernel_rfl) (fun _ _ _ h => h) rfl hT (fun W _ => ?_) ?_
      rotate_left
      · (go_simp; try with_reducible rfl)
      try simp only [Act.put, List.setIfInBounds_toArray, List.set_cons_zero, List.set_cons_succ]
      refine dr_step 24 rfl (by kernel_rfl) rfl (fun K hK => ?_)
      go_simp
      refine (zig_any _ _ ha0 ha1).mono ?_
      rintro e v4 ⟨rfl, rfl⟩
      have hT : (True ∧ (convert 28 9 (.slice A1' (encN (zz a)).length c1')).run Try.prog v3 = .ok (.string (str (encN (zz a)))) v3) ∧ (convert 28 9 (.slice A2' (encN (zz b)).length c2')).run Try.prog v3 = .ok (.string (str (encN (zz b)))) v3 := ⟨⟨trivial, hS.conv (A1', _, c1', encN (zz a)) (by simp)⟩, hS.conv (A2', _, c2', encN (zz b)) (by simp)⟩
      refine hK.out _ _ hT ?_
      clear hK K
      try simp only [Act.put, List.setIfInBounds_toArray, List.set_cons_zero, List.set_cons_succ]
      refine dr_step 26 rfl (by kernel_rfl) rfl (fun K hK => ?_)
      go_simp
      refine (zig_any _ _ hb0 hb1).mono ?_
      rintro e v4 ⟨rfl, rfl⟩
      have hT : (True ∧ (convert 28 9 (.slice A1' (encN (zz a)).length c1')).run Try.prog v3 = .ok (.string (str (encN (zz a)))) v3) ∧ (convert 28 9 (.slice A2' (encN (zz b)).length c2')).run Try.prog v3 = .ok (.string (str (encN (zz b)))) v3 := ⟨⟨trivial, hS.conv (A1', _, c1', encN (zz a)) (by simp)⟩, hS.conv (A2', _, c2', encN (zz b)) (by simp)⟩
      refine hK.out _ _ hT ?_
      clear hK K
      try simp only [Act.put, List.setIfInBounds_toArray, List.set_cons_zero, List.set_cons_succ]
      refine dr_take 27 (some 50) (v := ?_) rfl rfl (by kernel_rfl) (by kernel_rfl) (by kernel_rfl) (fun _ _ _ h => h) rfl hT (fun W _ => ?_) ?_
      rotate_left
      · (go_simp; try with_reducible rfl)
      try simp only [Act.put, List.setIfInBounds_toArray, List.set_cons_zero, List.set_cons_succ]
      refine dr_take 28 (some 51) (v := ?_) rfl rfl (by kernel_rfl) (by kernel_rfl) (by kernel_rfl) (fun _ _ _ h => h) rfl hT (fun W _ => ?_) ?_
      rotate_left
      · (go_simp; try with_reducible rfl)
      try simp only [Act.put, List.setIfInBounds_toArray, List.set_cons_zero, List.set_cons_succ]
      refine dr_take 29 (some 52) (v := ?_) rfl rfl (by kernel_rfl) (by kernel_rfl) (by kernel_rfl) (fun _ _ _ h => h) rfl hT (fun W _ => ?_) ?_
      rotate_left
      · (go_simp; try with_reducible rfl)
      try simp only [Act.put, List.setIfInBounds_toArray, List.set_cons_zero, List.set_cons_succ]
      refine dr_take 32 (some 55) (v := ?_) rfl rfl (by kernel_rfl) (by kernel_rfl) (by kernel_rfl) (fun _ _ _ h => h) rfl hT (fun W _ => ?_) ?_
      rotate_left
      · (go_simp; try with_reducible rfl)
      try simp only [Act.put, List.setIfInBounds_toArray, List.set_cons_zero, List.set_cons_succ]
      refine dr_step 30 rfl (by kernel_rfl) rfl (fun K hK => ?_)
      go_simp
      refine (CI.bytesP hS (by omega)).mono ?_
      rintro e v5 ⟨A5', c5', rfl, hS⟩
      have hT : (True ∧ (convert 28 9 (.slice A1' (encN (zz a)).length c1')).run Try.prog v5 = .ok (.string (str (encN (zz a)))) v5) ∧ (convert 28 9 (.slice A2' (encN (zz b)).length c2')).run Try.prog v5 = .ok (.string (str (encN (zz b)))) v5 := ⟨⟨trivial, hS.conv (A1', _, c1', encN (zz a)) (by simp)⟩, hS.conv (A2', _, c2', encN (zz b)) (by simp)⟩
      refine hK.out _ _ hT ?_
      clear hK K
      try simp only [Act.put, List.setIfInBounds_toArray, List.set_cons_zero, List.set_cons_succ]
      refine dr_take 31 (some 54) (v := ?_) rfl rfl (by kernel_rfl) (by kernel_rfl) (by kernel_rfl) (fun _ _ _ h => h) rfl hT (fun W _ => ?_) ?_
      rotate_left
      · (go_simp; try with_reducible rfl)
      try simp only [Act.put, List.setIfInBounds_toArray, List.set_cons_zero, List.set_cons_succ]
      refine dr_step 33 rfl (by kernel_rfl) rfl (fun K hK => ?_)
      go_simp
      refine (CI.bytesQ hS (by omega)).mono ?_
      rintro e v6 ⟨A6', c6', rfl, hS⟩
      have hT : (True ∧ (convert 28 9 (.slice A1' (encN (zz a)).length c1')).run Try.prog v6 = .ok (.string (str (encN (zz a)))) v6) ∧ (convert 28 9 (.slice A2' (encN (zz b)).length c2')).run Try.prog v6 = .ok (.string (str (encN (zz b)))) v6 := ⟨⟨trivial, hS.conv (A1', _, c1', encN (zz a)) (by simp)⟩, hS.conv (A2', _, c2', encN (zz b)) (by simp)⟩
      refine hK.out _ _ hT ?_
      clear hK K
      try simp only [Act.put, List.setIfInBounds_toArray, List.set_cons_zero, List.set_cons_succ]
      refine dr_take 34 (some 57) (v := ?_) rfl rfl (by kernel_rfl) (by kernel_rfl) (by kernel_rfl) (fun _ _ _ h => h) rfl hT (fun W _ => ?_) ?_
      rotate_left
      · (go_simp; try with_reducible rfl)
      try simp only [Act.put, List.setIfInBounds_toArray, List.set_cons_zero, List.set_cons_succ]
      refine dr_take 35 (some 58) (v := ?_) rfl rfl (by kernel_rfl) (by kernel_rfl) (by kernel_rfl) (fun _ _ _ h => h) rfl hT (fun W _ => ?_) ?_
      rotate_left
      · (go_simp; try with_reducible rfl)
      try simp only [Act.put, List.setIfInBounds_toArray, List.set_cons_zero, List.set_cons_succ]
      refine dr_take 36 (some 59) (v := ?_) rfl rfl (by kernel_rfl) (by kernel_rfl) (by kernel_rfl) (fun _ _ _ h => h) rfl hT (fun W _ => ?_) ?_
      rotate_left
      · (go_simp; try with_reducible rfl)
      try simp only [Act.put, List.setIfInBounds_toArray, List.set_cons_zero, List.set_cons_succ]
      refine dr_take 37 (some 60) (v := ?_) rfl rfl (by kernel_rfl) (by kernel_rfl) (by kernel_rfl) (fun _ _ _ h => h) rfl hT (fun W _ => ?_) ?_
      rotate_left
      · (go_simp; try with_reducible rfl)
      try simp only [Act.put, List.setIfInBounds_toArray, List.set_cons_zero, List.set_cons_succ]
      refine dr_take 38 (some 4) (v := ?_) rfl rfl (by kernel_rfl) (by kernel_rfl) (by kernel_rfl) (fun _ _ _ h => h) rfl hT (fun W _ => ?_) ?_
      rotate_left
      · (go_simp; try with_reducible rfl)
      try simp only [Act.put, List.setIfInBounds_toArray, List.set_cons_zero, List.set_cons_succ]
      refine dr_done (by kernel_rfl) ?_
      go_wp2
      go_ret
      exact ⟨rfl, hS.ch⟩

end Go.Proofs.Ytbkncfedahifkaa
