/-
  Package wal: undo of nothing; lay.
-/
import Derived.Test.YtbkncfedahifkaaWFrame
import Derived.Test.YtbkncfedahifkaaDClear
set_option linter.unusedVariables false
set_option linter.unusedSimpArgs false
namespace Go.Proofs.Ytbkncfedahifkaa
open Go.RowKit Go.Maps Go.MapKept Go.ChangeMaps

theorem clear_undone {w : World} {m N : Nat} {D : DataW Value} (ty : TypeId) (h : w.ownsMap Try.prog 3 selfR m N D) :
    ∃ w', (Builtin.clear_ #[122] ty #[.map (some m)]).run Try.prog w = .ok (.tuple #[]) w' ∧ w'.ownsMap Try.prog 3 selfR m 0 (.map []) ∧ w.grownBy w' (some m) := by
  obtain ⟨es, clock, hb, F, hsz, rfl⟩ := h
  refine ⟨setBlock w m (.map #[] clock), ?_, ⟨#[], clock, heap_setBlock_same hb _, ⟨by simp, stamped_empty clock, by simp⟩, Nat.le_refl _, rfl⟩, ⟨rfl, rfl, rfl, by simp [setBlock], fun i _ hi => heap_setBlock_other hb _ (fun e => hi (by rw [e]))⟩⟩
  simp [Builtin.clear_, run_underlying Try.underlying122, MapKept.run_getObj_map hb, MapKept.run_setObj_map _ hb, Result.andThen, setBlock]

theorem wundo {w : World} {lb um b g m n sz turn next at_ count : Nat} {X : List Nat} {R : Nat → List UInt8} (h : LogS w lb um b g m X n sz R turn next at_ count) :
    Calls Try.prog 115 #[.pointer (some ⟨lb, 0, none⟩)] w fun e w' => e = .returned (.int .i64 0) ∧ w = w' := by
  have h5 := cell_at h.cells 5 rfl
  have hm := h.map
  go_enter Try.func115, Try.ntmps115
  go_wp2_with (first | (at_len; refine wpList_len_own _ rfl _ 122 rfl 3 33 Try.underlying122 selfR um 0 (.map []) rfl hm ?_) | fail)
  go_ret
  exact ⟨rfl, rfl⟩

/-- The first k bytes copied over the head of a row. -/
theorem copy_row {w : World} {base g n cap : Nat} {L : List UInt8} (h : w.ownsRow base 5 1 (.slice (some ⟨g, 0, none⟩) n cap) n (bvs L)) (A : Option Addr) (k c S : Nat) (l : List UInt8) (hr : RdB w A k c l) (hS : S ≤ n) (ty : TypeId) :
    ∃ v w', (Builtin.copy_ #[28, 28] ty #[.slice (some ⟨g, 0, none⟩) S cap, .slice A k c]).run Try.prog w = .ok v w' ∧
      w'.ownsRow base 5 1 (.slice (some ⟨g, 0, none⟩) n cap) n (bvs (splice L 0 (l.take S))) ∧ Ch [g] w w' := by
  obtain ⟨cur, h1, h2, h3, h4, h5, h6, h7⟩ := own_block h
  have hi : (Try.prog.info? 5).map (·.size) = some 1 := by kernel_rfl
  have hkl := hr.length
  by_cases h0 : min k S = 0
  · have hr2 := run_copy_none (P := Try.prog) w 28 28 ty 5 (some ⟨g, 0, none⟩) A S cap k c Try.underlying28 hi h0
    refine ⟨_, w, hr2, ?_, Ch.refl _ _⟩
    have e : l.take S = [] := List.eq_nil_of_length_eq_zero (by rw [List.length_take]; omega)
    rw [e, splice_nil _ _ (by omega)]
    exact h
  · obtain ⟨b, o, rfl, hc⟩ := hr.cell (by omega)
    have hlt : (bvs (l.take S)).length = min k S := by rw [bvs_length, List.length_take, hkl]; omega
    have hr2 := run_copy_row (P := Try.prog) w 28 28 ty 5 g 0 S cap ⟨b, o, none⟩ k c cur.toArray 5 (bvs (l.take S)) Try.underlying28 hi h1 hlt
      (fun j v hv => by
        rw [Addr.add_lit]
        have hj : j < min k S := by rw [← hlt]; exact (List.getElem?_eq_some_iff.1 hv).1
        have := hc j (by omega)
        rw [this]
        rw [bvs_get, List.getElem?_take, if_pos (by omega), List.getElem?_eq_getElem (by omega)] at hv
        exact hv)
      (by simp; omega) (bvs_one _)
    refine ⟨_, _, hr2, ?_, ?_⟩
    · refine block_own (setRow_heap w g _ _ 5 _ h1) h2 h3 h4 ?_ ?_ ?_
      · simp [hlt]; omega
      · show (splice cur 0 (bvs (l.take S))).take n = _
        rw [splice_take _ _ _ _ (by rw [hlt]; omega) (by omega), h6]
        simp only [bvs, splice_map]
      · rw [splice_length _ _ _ (by rw [List.length_take]; omega)]; exact h7
    · exact ⟨rfl, rfl, rfl, by simp [World.setRow], fun k _ hk => setRow_other w g k _ (by simpa using hk)⟩

/-- A frame's sector. -/
def secB (S turn next : Nat) (B : List UInt8) (i : Nat) : List UInt8 :=
  let p := (B.drop (i * S)).take S
  p ++ List.replicate (S - p.length) 0 ++ if i = 0 then beN 8 turn ++ beN 8 (next + 1) else List.replicate 16 0
/-- What a disk reads as once the sectors from j on are laid. -/
def layR (R : Nat → List UInt8) (S turn next fr k : Nat) (B : List UInt8) (j : Nat) : Nat → List UInt8 := fun s => if fr + j ≤ s ∧ s < fr + k then secB S turn next B (s - fr) else R s
theorem layR_top (R : Nat → List UInt8) (S turn next fr k : Nat) (B : List UInt8) : layR R S turn next fr k B k = R := by
  funext s
  unfold layR
  rw [if_neg (by omega)]
theorem layR_step (R : Nat → List UInt8) (S turn next fr k : Nat) (B : List UInt8) (i : Nat) (hi : i < k) : upd (layR R S turn next fr k B (i + 1)) (fr + i) (secB S turn next B i) = layR R S turn next fr k B i := by
  funext s
  unfold upd layR
  by_cases e : s = fr + i
  · subst e
    rw [if_pos rfl, if_pos (by omega)]
    congr 1
    omega
  · rw [if_neg e]
    by_cases h : fr + (i + 1) ≤ s ∧ s < fr + k
    · rw [if_pos h, if_pos (by omega)]
    · rw [if_neg h, if_neg (by omega)]
theorem splice_head (S z : Nat) (p : List UInt8) (hp : p.length ≤ S) (hz : S + 16 = z) : splice (List.replicate z (0 : UInt8)) 0 p = p ++ List.replicate (S - p.length) 0 ++ List.replicate 16 0 := by
  unfold splice
  rw [List.take_zero, List.nil_append, Nat.zero_add, List.drop_replicate, List.append_assoc, List.replicate_append_replicate]
  congr 2
  omega
theorem splice_ends (S turn next : Nat) (p : List UInt8) (hp : p.length ≤ S) : splice (splice (p ++ List.replicate (S - p.length) 0 ++ List.replicate 16 0) S (beN 8 turn)) (S + 8) (beN 8 next) = p ++ List.replicate (S - p.length) 0 ++ (beN 8 turn ++ beN 8 next) := by
  have e : p ++ List.replicate (S - p.length) (0 : UInt8) ++ List.replicate 16 0 = (p ++ List.replicate (S - p.length) 0) ++ (List.replicate 8 0 ++ (List.replicate 8 0 ++ [])) := by
    rw [List.append_nil, List.replicate_append_replicate]
  have hl : (p ++ List.replicate (S - p.length) (0 : UInt8)).length = S := by simp; omega
  rw [e, splice_mid _ _ _ (beN 8 turn) (by simp [beN_length]) S hl.symm, ← List.append_assoc, splice_mid _ _ _ (beN 8 next) (by simp [beN_length]) (S + 8) (by rw [List.length_append, hl, beN_length])]
  simp [List.append_assoc]
theorem secB_length (S turn next : Nat) (B : List UInt8) (i : Nat) : (secB S turn next B i).length = S + 16 := by
  unfold secB
  simp only [List.length_append, List.length_replicate, List.length_take]
  split <;> simp [beN_length] <;> omega

theorem from_eq (turn n a : Nat) (hn : n ≤ 4096) (ha : a ≤ 4096) : wrap64 (wrap64 ((turn : Int) % 2 * ((n : Int) / 2)) + (a : Int)) = ((turn % 2 * (n / 2) + a : Nat) : Int) := by
  have hm1 : turn % 2 * (n / 2) ≤ 1 * (n / 2) := Nat.mul_le_mul_right _ (by omega)
  have e1 : (turn : Int) % 2 * ((n : Int) / 2) = ((turn % 2 * (n / 2) : Nat) : Int) := by rw [Int.natCast_mul, Int.natCast_emod, Int.natCast_ediv]; rfl
  rw [e1]
  have h3 : turn % 2 * (n / 2) ≤ 2048 := by omega
  clear hm1 e1
  generalize turn % 2 * (n / 2) = z at *
  have e2 : wrap64 (z : Int) = (z : Int) := IntWalk.wrap64_in _ ⟨by omega, by omega⟩
  rw [e2, IntWalk.wrap64_in _ ⟨by omega, by omega⟩]
  omega

set_option maxRecDepth 100000 in
set_option maxHeartbeats 4000000 in
theorem lay_any (w : World) (lb um b g m n sz T N a0 cnt : Nat) (X : List Nat) (R : Nat → List UInt8) (h : LogS w lb um b g m X n sz R T N a0 cnt) (hX : ∀ x ∈ X, x < w.heap.size) (turn next a : Nat) (A : Option Addr) (bn bc : Nat) (B : List UInt8) (hr : RdB w A bn bc B)
    (hrF : ∀ ad, A = some ad → ad.block ∉ [b, g, m, um]) (ht : turn < 18446744073709551616) (hx : next < 9223372036854775808) (hbn : 0 < bn) (hb2 : bn ≤ 1000000000000) (hfit : a + secsN (sz - 16) bn ≤ n / 2) :
    Calls Try.prog 108 #[.pointer (some ⟨lb, 0, none⟩), .int .u64 (turn : Int), .int .u64 (next : Int), .int .i64 (a : Int), .slice A bn bc] w fun e w' => e = .returned (.int .i64 0) ∧
      LogS w' lb um b g m X n sz (layR R (sz - 16) turn next (turn % 2 * (n / 2) + a) (secsN (sz - 16) bn) B 0) T N a0 cnt ∧ Ch [b, g, m, um] w w' := by
  have hb := h.bds
  have hhalf := whalf w h
  have hundo := wundo h
  go_enter Try.func108, Try.ntmps108
  go_wp2_with fail
  refine hhalf.mono ?_
  rintro e w' ⟨rfl, rfl⟩
  go_wp2_with fail
  have hfr := from_eq turn n a hb.2.1 (by omega)
  have hfrn : turn % 2 * (n / 2) + a + secsN (sz - 16) bn ≤ n := by
    have h2 : turn % 2 * (n / 2) ≤ 1 * (n / 2) := Nat.mul_le_mul_right _ (by omega)
    omega
  rw [hfr]
  generalize hfe : turn % 2 * (n / 2) + a = fr at *
  have HFE := Lib.hid hfe
  clear hfe hfr
  refine hundo.mono ?_
  rintro e w' ⟨rfl, rfl⟩
  have hsec := wsectors bn w h hb2
  have hkpos : 1 ≤ secsN (sz - 16) bn := by
    unfold secsN
    have hd := Nat.div_add_mod bn (sz - 16)
    rcases Nat.eq_zero_or_pos (bn / (sz - 16)) with hz | hz
    · rw [hz, Nat.mul_zero, Nat.zero_add] at hd
      rw [hd]
      omega
    · omega
  have hkS : ∀ i, i < secsN (sz - 16) bn → i * (sz - 16) ≤ bn := by
    intro i hi
    have h1 := Nat.div_mul_le_self bn (sz - 16)
    have h2 : i ≤ bn / (sz - 16) := by unfold secsN at hi; omega
    exact Nat.le_trans (Nat.mul_le_mul_right _ h2) h1
  have HkS := Lib.hid hkS
  clear hkS hhalf hundo
  go_wp2_with fail
  refine hsec.mono ?_
  rintro e w1 ⟨rfl, hc1⟩
  have h1 := h.nil hc1
  have hr1 := hr.keep hc1 (by simp)
  have hs1 := hc1.size
  clear hsec
  generalize hk : secsN (sz - 16) bn = k at *
  generalize hSe : sz - 16 = S at *
  have hS1 : S + 16 ≤ sz := by omega
  have hS2 : sz ≤ S + 16 := by omega
  have hS3 : S ≤ sz := by omega
  have HSE := Lib.hid hSe
  have HK2 := Lib.hid hk
  clear hSe hk
  have hcl := h1.cells
  have hout := h1.live.outs
  simp only [List.mem_cons, not_or] at hout
  obtain ⟨hbg, hbm, hgm, ⟨hbl, hbu, hbX⟩, ⟨hgl, hgu, hgX⟩, hml, hmu, hmX⟩ := hout
  have hlu := h1.lu
  have hlive : Live w1 b g m (lb :: um :: X) n sz (layR R S turn next fr k B k) := by rw [layR_top]; exact h1.live
  have hmap := h1.map
  go_wp2_with fail
  go_loopw [13] (fun i wr => ∃ (j : Nat) (v : Int), j ≤ k ∧ i = .int .i64 v ∧ v = (j : Int) - 1 ∧ Live wr b g m (lb :: um :: X) n sz (layR R S turn next fr k B j) ∧ Ch [b, g, m, um] w1 wr ∧ (0 < j → wr.ownsMap Try.prog 3 selfR um 0 (.map [])) ∧ ∃ q Dm, wr.ownsMap Try.prog 3 selfR um q Dm)
    (fun i _ => (intOf i + 1).toNat)
  case atStart => exact ⟨k, _, Nat.le_refl _, rfl, rfl, hlive, Ch.refl _ _, fun _ => hmap, 0, _, hmap⟩
  case round =>
    clear hlive hmap
    obtain ⟨j, v, hj, rfl, hv, hlive, hch, hm0, q, Dm, hmq⟩ := hrel
    obtain ⟨wA, hwA⟩ : ∃ W, W = wr := ⟨_, rfl⟩
    subst hwA
    have hclA := hch.at_ hcl (by simp; omega)
    have hsA := hch.size
    have hlA0 := cell_at hclA 0 rfl
    have hlA5 := cell_at hclA 5 rfl
    rcases j with _ | i
    · obtain rfl : v = -1 := by omega
      have hfl := live_flush_any b g m _ n sz _ wA hlive
      clear hm0 hv
      go_wp2_with fail
      refine hfl.mono ?_
      rintro e w2 ⟨rfl, hl2, hc2⟩
      have hcl2 := hc2.at_ hclA (by simp; omega)
      have hl25 := cell_at hcl2 5 rfl
      have hmq2 : w2.ownsMap Try.prog 3 selfR um q Dm := by
        obtain ⟨es, clock, hbk, F, hs, hD⟩ := hmq
        exact ⟨es, clock, hc2.at_ hbk (by simp; omega), F, hs, hD⟩
      obtain ⟨w3, hrun, hown, hgr⟩ := clear_undone 0 hmq2
      have hc3 : Ch [um] w2 w3 := (Ch.refl _ _).grown hgr (by intro x hx; cases hx; exact .inl (by simp))
      have hl3 := hl2.keep (hc3.mono (G := lb :: um :: X) (by simp))
      go_wp2_with fail
      go_ret
      refine ⟨rfl, ?_, ((hc1.mono (G := [b, g, m, um]) (by simp)).trans hch (by intro x hx; exact .inl hx)).trans ((hc2.mono (G := [b, g, m, um]) (by simp)).trans hc3 (by simp)) (by intro x hx; exact .inl hx)⟩
      rw [HSE.out, HFE.out, HK2.out]
      exact { h1 with cells := hc3.at_ hcl2 (by simp; omega), map := hown, live := hl3 }
    · obtain rfl : v = (i : Int) := by omega
      have hmE := hm0 (by omega)
      have hin : fr + i < n := by omega
      have hiS := HkS.out i (by omega)
      have hsz := live_size b g m _ n sz _ wA hlive
      obtain ⟨w2, hmk, how2, hc2⟩ := make_bytes sz wA (by omega)
      have hl2 := hlive.nil hc2
      have hcl2 := hc2.at_ hclA (by simp)
      have hmE2 : w2.ownsMap Try.prog 3 selfR um 0 (.map []) := by
        obtain ⟨es, clock, hbk, F, hs, hD⟩ := hmE
        exact ⟨es, clock, hc2.at_ hbk (by simp), F, hs, hD⟩
      have hLS2 : LogS w2 lb um b g m X n sz (layR R S turn next fr k B (i + 1)) T N a0 cnt := { h1 with cells := hcl2, map := hmE2, live := hl2 }
      have hz := wsize w2.drew (hLS2.nil (Ch.refl _ _).drew)
      have hz0 := wsize w2 hLS2
      rw [show ((sz - 16 : Nat) : Int) = (S : Int) from by omega] at hz
      have Hz := Lib.hid hz
      have hr2 : RdB w2 A bn bc B := (hr1.keep hch hrF).keep hc2 (by simp)
      obtain ⟨i0, hi0, hsz0⟩ := Option.map_eq_some_iff.1 Try.info5
      simp only [Prod.mk.injEq] at hsz0
      obtain ⟨p, hp⟩ : ∃ p, i * S = p := ⟨_, rfl⟩
      have hpZ : (i : Int) * (S : Int) = (p : Int) := by rw [← hp, Int.natCast_mul]
      rw [hp] at hiS
      obtain ⟨A', hcut0, hrd', hblk'⟩ := cut_from (P := Try.prog) 28 5 Try.underlying28 hi0 hsz0.2.1 A bn bc p hiS
      have hcut := hcut0 .i64
      have hrc : RdB w2 A' (bn - p) (bc - p) (B.drop p) := by have := hrd' w2 _ hr2; rwa [Nat.mul_one, bvs_drop] at this
      obtain ⟨vcp, w3, hcopy, how3, hc3⟩ := copy_row (own_keep how2 (Ch.refl [] w2).drew (by simp)) A' _ _ S (B.drop p) (hrc.keep (Ch.refl [] w2).drew (by simp)) (by omega) 3
      have hwp : IntKind.i64.wrap (p : Int) = (p : Int) := by rw [IntKind.wrap_i64]; omega
      have HP := Lib.hid hp
      clear hp hcut0
      have hxs := own_lt how2 _ rfl
      have HR := Lib.hid hrc
      clear hv hm0 hmE hmq hrd' hblk' hi0 hsz0 i0 hr2 hrc
      go_wp2_with fail
      refine hsz.mono ?_
      rintro e w' ⟨rfl, rfl⟩
      go_wp2_with fail
      refine dr_begin (by kernel_rfl) ?_
      have hT : True := trivial
      refine dr_take 0 (some 48) (v := ?_) rfl rfl (by kernel_rfl) (by kernel_rfl) (by kernel_rfl) (fun _ _ _ h => h) rfl hT (fun W _ => ?_) ?_
      rotate_left
      · (go_simp; try with_reducible rfl)
      try simp only [Act.put, List.setIfInBounds_toArray, List.set_cons_zero, List.set_cons_succ]
      refine dr_take 1 (some 49) (v := ?_) rfl rfl (by kernel_rfl) (by kernel_rfl) (by kernel_rfl) (fun _ _ _ h => h) rfl hT (fun W _ => ?_) ?_
      rotate_left
      · (go_simp; try with_reducible rfl)
      try simp only [Act.put, List.setIfInBounds_toArray, List.set_cons_zero, List.set_cons_succ]
      refine dr_take 4 (some 52) (v := ?_) rfl rfl (by kernel_rfl) (by kernel_rfl) (by kernel_rfl) (fun _ _ _ h => h) rfl hT (fun W _ => ?_) ?_
      rotate_left
      · (go_simp; try with_reducible rfl)
      try simp only [Act.put, List.setIfInBounds_toArray, List.set_cons_zero, List.set_cons_succ]
      refine dr_take 5 (some 53) (v := ?_) rfl rfl (by kernel_rfl) (by kernel_rfl) (by kernel_rfl) (fun _ _ _ h => h) rfl hT (fun W _ => ?_) ?_
      rotate_left
      · (go_simp; try with_reducible rfl)
      try simp only [Act.put, List.setIfInBounds_toArray, List.set_cons_zero, List.set_cons_succ]
      refine dr_take 6 (some 54) (v := ?_) rfl rfl (by kernel_rfl) (by kernel_rfl) (by kernel_rfl) (fun _ _ _ h => h) rfl hT (fun W _ => ?_) ?_
      rotate_left
      · (go_simp; try with_reducible rfl)
      try simp only [Act.put, List.setIfInBounds_toArray, List.set_cons_zero, List.set_cons_succ]
      refine dr_step 2 rfl (by kernel_rfl) rfl (fun K hK => ?_)
      go_simp
      refine Hz.out.mono ?_
      rintro e v ⟨rfl, rfl⟩
      refine hK.out _ _ hT ?_
      clear hK K
      try simp only [Act.put, List.setIfInBounds_toArray, List.set_cons_zero, List.set_cons_succ]
      refine dr_take 3 (some 51) (v := ?_) rfl rfl (by kernel_rfl) (by kernel_rfl) (by kernel_rfl) (fun _ _ _ h => h) rfl hT (fun W _ => ?_) ?_
      rotate_left
      · (go_simp; try with_reducible rfl)
      try simp only [Act.put, List.setIfInBounds_toArray, List.set_cons_zero, List.set_cons_succ]
      refine dr_step 7 rfl (by kernel_rfl) rfl (fun K hK => ?_)
      go_simp
      refine Hz.out.mono ?_
      rintro e v ⟨rfl, rfl⟩
      refine hK.out _ _ hT ?_
      clear hK K
      try simp only [Act.put, List.setIfInBounds_toArray, List.set_cons_zero, List.set_cons_succ]
      refine dr_take 8 (some 56) (v := ?_) rfl rfl (by kernel_rfl) (by kernel_rfl) (by kernel_rfl) (fun _ _ _ h => h) rfl hT (fun W _ => ?_) ?_
      rotate_left
      · (go_simp; try with_reducible rfl)
      try simp only [Act.put, List.setIfInBounds_toArray, List.set_cons_zero, List.set_cons_succ]
      refine dr_take 9 (some 57) (v := ?_) rfl rfl (by kernel_rfl) (by kernel_rfl) (by kernel_rfl) (fun _ _ _ h => h) rfl hT (fun W _ => ?_) ?_
      rotate_left
      · (go_simp; try with_reducible rfl)
      try simp only [Act.put, List.setIfInBounds_toArray, List.set_cons_zero, List.set_cons_succ]
      refine dr_step 10 rfl (by kernel_rfl) rfl (fun K hK => ?_)
      go_simp
      refine hK.out _ _ hT ?_
      clear hK K
      try simp only [Act.put, List.setIfInBounds_toArray, List.set_cons_zero, List.set_cons_succ]
      refine dr_done (by kernel_rfl) ?_
      have hcA3 : Ch [] wA w3 := ((Ch.refl [] wA).trans hc2 (by simp)).drew.trans hc3 (by simp)
      have hl3 := (hlive.add (x := wA.heap.size) (Nat.le_refl _)).nil hcA3
      have hcl3 := hcA3.at_ hclA (by simp)
      have hmE3 : w3.ownsMap Try.prog 3 selfR um 0 (.map []) := by
        obtain ⟨es, clock, hbk, F, hs, hD⟩ := hmE2
        exact ⟨es, clock, hc3.at_ hbk (by have := lt_of_at hcl; have := h1.map.lt; simp; omega), F, hs, hD⟩
      have hlb0 := cell_at hcl3 0 rfl
      have hlb5 := cell_at hcl3 5 rfl
      have hpl : ((B.drop p).take S).length ≤ S := by rw [List.length_take]; omega
      rw [splice_head S sz _ hpl (by omega)] at how3
      have hx3 : wA.heap.size < w3.heap.size := own_lt how3 _ rfl
      have hs3 := hcA3.size
      have hXl : ∀ y ∈ lb :: um :: X, y < wA.heap.size := by
        have := hc1.size
        have q1 := lt_of_at hcl
        have q2 := h1.map.lt
        intro y hy
        simp only [List.mem_cons] at hy
        rcases hy with e | e | e
        · omega
        · omega
        · have := hX y e; omega
      have hblt := hlive.lts
      clear hcopy hmk hcut hsz hz hz0 how2 hl2 hcl2 hmE2 hLS2 hlA0 hlA5
      generalize hxe : wA.heap.size = x at *
      have HX := Lib.hid hxe
      clear hxe
      have hXX : ∀ y ∈ x :: lb :: um :: X, y < w3.heap.size := by
        intro y hy
        rcases List.mem_cons.1 hy with e | e
        · omega
        · have := hXl y e; omega
      rcases i with _ | i
      · obtain rfl : p = 0 := by have := HP.out; omega
        rw [List.drop_zero] at how3 hpl
        have hLS3 : LogS w3 lb um b g m X n sz (layR R S turn next fr k B 1) T N a0 cnt := { h1 with cells := hcl3, map := hmE3, live := hl3.sub (by intro y hy; exact List.mem_cons_of_mem _ hy) }
        have hz3 := wsize w3 hLS3
        rw [show ((sz - 16 : Nat) : Int) = (S : Int) from by omega] at hz3
        have hS8 : S + 8 ≤ sz := by omega
        have hi0 : ((0 : Int) == 0) = true := rfl
        go_wp2_with fail
        refine hz3.mono ?_
        rintro e w' ⟨rfl, rfl⟩
        go_wp2_with fail
        refine hz3.mono ?_
        rintro e w' ⟨rfl, rfl⟩
        go_wp2_with fail
        refine (put_row x S 8 (sz - S) sz sz turn x _ w3 how3 (by omega) (by omega) ht).mono ?_
        rintro e w4 ⟨rfl, how4, hc4⟩
        have mkLS : ∀ W, Ch [x] w3 W → LogS W lb um b g m X n sz (layR R S turn next fr k B 1) T N a0 cnt := fun W hW => { h1 with
          cells := hW.at_ hcl3 (by have := hXl lb (by simp); simp; omega)
          map := by
            obtain ⟨es, clock, hbk, F, hs, hD⟩ := hmE3
            exact ⟨es, clock, hW.at_ hbk (by have := hXl um (by simp); simp; omega), F, hs, hD⟩
          live := (hl3.keep (hW.mono (by simp))).sub (by intro y hy; exact List.mem_cons_of_mem _ hy) }
        have hz4 := wsize w4 (mkLS w4 hc4)
        rw [show ((sz - 16 : Nat) : Int) = (S : Int) from by omega] at hz4
        have hn1 : ((next + 1 : Nat) : Int) = (next : Int) + 1 := by omega
        have hput2 := put_row x (S + 8) 8 (sz - (S + 8)) sz sz (next + 1) x _ w4 how4 (by omega) (by omega) (by omega)
        rw [splice_ends S turn (next + 1) _ hpl, hn1] at hput2
        have hlb04 := cell_at (mkLS w4 hc4).cells 0 rfl
        clear hz3 how4 how3 hn1
        go_wp2_with fail
        refine hz4.mono ?_
        rintro e w' ⟨rfl, rfl⟩
        go_wp2_with fail
        rw [show sz - (S + 8) = 8 from by omega] at hput2 ⊢
        refine hput2.mono ?_
        rintro e w5 ⟨rfl, how5, hc5⟩
        have hc35 : Ch [x] w3 w5 := hc4.trans hc5 (by intro y hy; exact .inl hy)
        have hLS5 := mkLS w5 hc35
        have hl5 := hl3.keep (hc35.mono (G := x :: lb :: um :: X) (by simp))
        have hlb05 := cell_at hLS5.cells 0 rfl
        have hlb55 := cell_at hLS5.cells 5 rfl
        have hfl5 := live_flush_any b g m _ n sz _ w5 hl5
        have hs35 := hc35.size
        clear hput2 hz4
        go_wp2_with fail
        refine hfl5.mono ?_
        rintro e w6 ⟨rfl, hl6, hc6⟩
        have hcl6 := hc6.at_ hLS5.cells (by simp; omega)
        have hlb06 := cell_at hcl6 0 rfl
        have hlb56 := cell_at hcl6 5 rfl
        have hmE6 : w6.ownsMap Try.prog 3 selfR um 0 (.map []) := by
          obtain ⟨es, clock, hbk, F, hs, hD⟩ := hLS5.map
          exact ⟨es, clock, hc6.at_ hbk (by simp; omega), F, hs, hD⟩
        obtain ⟨w7, hrun7, hown7, hgr7⟩ := hmE6.update ikeyed Try.underlying122 (by unfold maxLen; omega) (ikey_mk fr (by omega)) (val := .int .u64 (turn : Int)) rfl
        have hc7 : Ch [um] w6 w7 := (Ch.refl _ _).grown hgr7 (by intro y hy; cases hy; exact .inl (by simp))
        have hl7 := hl6.keep (hc7.mono (G := x :: lb :: um :: X) (by simp))
        have hcl7 := hc7.at_ hcl6 (by simp; omega)
        have hlb07 := cell_at hcl7 0 rfl
        have how7 := own_keep (own_keep how5 hc6 (by intro y hy; simp only [Value.ownBlock, Option.some.injEq] at hy; simp; omega)) hc7 (by intro y hy; simp only [Value.ownBlock, Option.some.injEq] at hy; have := hXl um (by simp); simp; omega)
        have hs6 := hc6.size
        have hs7 := hc7.size
        have hwr := live_write_any b g m _ n sz _ (fr + 0) _ sz _ w7 hl7 (by intro y hy; have := hXX y hy; omega) (own_rd how7) hin
        have hsc : (B.take S) ++ List.replicate (S - (B.take S).length) 0 ++ (beN 8 turn ++ beN 8 (next + 1)) = secB S turn next B 0 := by unfold secB; rw [Nat.zero_mul, List.drop_zero, if_pos rfl]
        rw [hsc, layR_step _ _ _ _ _ _ _ _ hj, Nat.add_zero] at hwr
        clear hsc how7 how5
        go_wp2_with fail
        refine hwr.mono ?_
        rintro e w8 ⟨rfl, hl8, hc8⟩
        have hown8 : ∃ D, w8.ownsMap Try.prog 3 selfR um 1 D := by
          obtain ⟨es, clock, hbk, F, hs, hD⟩ := hown7
          exact ⟨_, es, clock, hc8.at_ hbk (by simp; omega), F, hs, hD⟩
        have c1 : Ch [x, b, g, m, um] wA w3 := hcA3.mono (by simp)
        have c2 : Ch [x, b, g, m, um] w3 w5 := hc35.mono (by simp)
        have c3 : Ch [x, b, g, m, um] w5 w6 := hc6.mono (by simp)
        have c4 : Ch [x, b, g, m, um] w6 w7 := hc7.mono (by simp)
        have c5 : Ch [x, b, g, m, um] w7 w8 := hc8.mono (by simp)
        have cA := (((c1.trans' c2).trans' c3).trans' c4).trans' c5
        clear hwr
        go_wp2_with fail
        go_roundw
        case rel =>
          exact ⟨0, -1, by omega, rfl, by omega, hl8.sub (by intro y hy; exact List.mem_cons_of_mem _ hy), hch.trans cA (by intro y hy; simp at hy ⊢; omega), fun h => by omega, 1, hown8⟩
        case measure => simp [intOf]
      · have hwr := live_write_any b g m _ n sz _ (fr + (i + 1)) _ sz _ w3 hl3 hXX (own_rd how3) hin
        have hsc : (B.drop p).take S ++ List.replicate (S - ((B.drop p).take S).length) 0 ++ List.replicate 16 0 = secB S turn next B (i + 1) := by unfold secB; rw [HP.out, if_neg (by omega)]
        rw [hsc, layR_step _ _ _ _ _ _ _ _ hj] at hwr
        have hne : (((i + 1 : Nat) : Int) == 0) = false := by rw [beq_eq_false_iff_ne]; omega
        have hi1 : ((i + 1 : Nat) : Int) = (i : Int) + 1 := by omega
        rw [Int.natCast_add] at hwr
        clear hsc
        go_wp2_with fail
        refine hwr.mono ?_
        rintro e w4 ⟨rfl, hl4, hc4⟩
        have hmE4 : w4.ownsMap Try.prog 3 selfR um 0 (.map []) := by
          obtain ⟨es, clock, hbk, F, hs, hD⟩ := hmE3
          exact ⟨es, clock, hc4.at_ hbk (by simp; omega), F, hs, hD⟩
        clear hwr
        go_wp2_with fail
        go_roundw
        case rel => exact ⟨i + 1, _, by omega, rfl, by omega, hl4.sub (by intro y hy; exact List.mem_cons_of_mem _ hy), hch.trans ((hcA3.mono (G := [b, m]) (by simp)).trans hc4 (by intro y hy; exact .inl hy)) (by intro y hy; simp at hy ⊢; omega), fun _ => hmE4, 0, _, hmE4⟩
        case measure => simp [intOf]; omega

end Go.Proofs.Ytbkncfedahifkaa
