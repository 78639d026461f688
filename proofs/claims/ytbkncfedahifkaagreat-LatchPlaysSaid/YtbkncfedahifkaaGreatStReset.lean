/-
  Package store: reset, Compact.
-/
import Derived.Test.YtbkncfedahifkaaGreatStRep
set_option linter.unusedVariables false
set_option linter.unusedSimpArgs false
namespace Go.Proofs.YtbkncfedahifkaaGreat
open Go.RowKit Go.Maps Go.Sort Go.Shelf

theorem IsM.look1 {w : World} {mb : Nat} {D : Mp} (h : IsM w mb D) (k : List UInt8) (hk : k.length ≤ 1000000) :
    (Instr.lookup 40 (.map (some mb)) (.string (str k)) false).run Tryz.prog w = .ok (.string (str (getL D k))) w := by
  have hz : (zeroValue 9).run Tryz.prog w = .ok (.string ⟨#[]⟩) w := by simp [Tryz.zeroValue9]
  have hzd : plainElem (H := Value) Tryz.prog 9 (.string ⟨#[]⟩) = some (.lit (.string []), []) := pl_str [] (by simp)
  obtain ⟨v, ps, hrun, hat⟩ := World.ownsMap.lookup h skeyed Tryz.underlying40 hz hzd (skey_mk k hk)
  obtain ⟨s, rfl, he, _⟩ := plainElem_string_inv Tryz.underlying9 hat
  simp only [Prod.mk.injEq] at he
  have e2 : getL D k = s.data.toList := by unfold getL; rw [he.1]
  rw [e2, str_of]
  exact hrun
section
variable {sb lb um b g m n sz turn a : Nat} {X : List Nat} {D : Mp}
theorem logg_out {w : World} {rs : List (List UInt8)} (h : Logg w lb um b g m (sb :: X) n sz turn a rs) : sb ∉ [lb, b, g, m, um] := by
  obtain ⟨R, next, q1, q2⟩ := h
  have o1 := q1.live.outs
  have o2 := q1.lX
  have o3 := q1.uX
  simp only [List.mem_cons, not_or, List.not_mem_nil, not_false_eq_true, and_true] at o1 o2 o3 ⊢
  exact ⟨fun e => o2.1 e.symm, fun e => o1.2.2.2.1.2.2.1 e.symm, fun e => o1.2.2.2.2.1.2.2.1 e.symm, fun e => o1.2.2.2.2.2.2.2.1 e.symm, fun e => o3.1 e.symm⟩

set_option maxRecDepth 100000 in
set_option maxHeartbeats 4000000 in
theorem streset_any (mm mb : Nat) (rs : List (List UInt8)) (w : World) (hcs : w.heap[sb]? = some (.cells #[.pointer (some ⟨lb, 0, none⟩), .map (some mb), .bool false] 101 (0, 0))) (hl : Logg w lb um b g m (sb :: X) n sz turn a rs) (hX : ∀ x ∈ X, x < w.heap.size)
    (hM : IsM w mm D) (hsm : Small D) (hstr : StrMap D) (hsz : Maps.size D ≤ 3000000) (hlen : (keysL D).length ≤ 1000) (ht : turn < 4611686018427387904) (hf : commitE n sz 0 ((pairsOf D).map encP) = 0) :
    Calls Tryz.prog 55 #[.pointer (some ⟨sb, 0, none⟩), .map (some mm)] w fun e w' => e = .returned (.int .i64 0) ∧ Logg w' lb um b g m (sb :: X) n sz (turn + 1) (lenF sz ((pairsOf D).map encP)) ((pairsOf D).map encP) ∧ Ch [lb, b, g, m, um] w w' := by
  have hko := keysS_any (some mm) w
  have hs := sortedS_any mm D w hM (by omega)
  have hO := hl.out
  have hsO := lt_of_at hcs
  have hc0 : Ch [] w (w.alloc (.cells #[.map (some mm)] 40)) := (Ch.refl [] w).alloc _
  generalize hW0 : w.alloc (.cells #[.map (some mm)] 40) = w0 at *
  have hpl : (pairsOf D).map encP = (keysL D).map (fun k => encP ⟨k, getL D k, false⟩) := by unfold pairsOf; rw [List.map_map]; rfl
  have hpo := pairsOf_ok hstr hsm
  have hle : ∀ r ∈ (pairsOf D).map encP, r.length ≤ 1000000000000 := by intro r hr2; obtain ⟨p, hp, rfl⟩ := List.mem_map.1 hr2; have := encP_length (hpo p hp); omega
  have hsk : ∀ k ∈ keysL D, k.length ≤ 1000 ∧ (getL D k).length ≤ 1000 := fun k hk => hsm k ((strMap_mem hstr k).1 hk)
  obtain ⟨R, hR⟩ : ∃ R, (pairsOf D).map encP = R := ⟨_, rfl⟩
  rw [hR] at hpl hle hf
  have HR := Lib.hid hR
  have HPL := Lib.hid hpl
  have HLE := Lib.hid hle
  have HF := Lib.hid hf
  clear hR hpl hle hf hpo hsm hstr
  go_enter Tryz.func55, Tryz.ntmps55
  go_wp2_with fail
  refine hko.mono ?_
  rintro e w' ⟨rfl, rfl⟩
  clear hko hW0
  go_wp2_with fail
  refine hs.mono ?_
  rintro e w1 ⟨v, rfl, hrow, hc1⟩
  clear hs
  obtain ⟨A, c, rfl⟩ := own_slice hrow
  have hrd := own_rd hrow
  have hc01 := hc0.trans hc1 (by simp)
  obtain ⟨K, hK⟩ : ∃ K, keysL D = K := ⟨_, rfl⟩
  rw [hK] at hrow hrd hlen hsk ⊢
  have HPL2 := HPL.out
  rw [hK] at HPL2
  have HPL3 := Lib.hid HPL2
  clear HPL2 HPL
  generalize hN : K.length = N at *
  have HN := Lib.hid hN
  have HSK := Lib.hid hsk
  clear hN hK hrow hsk
  go_wp2_with fail
  go_loopw [5, 12] (fun ov ki wr => ∃ k : Nat, k ≤ N ∧ ki = .int .i64 (k : Int) ∧ RowsO wr w1.heap.size ov ((K.take k).map (fun k => encP ⟨k, getL D k, false⟩)) ∧ Ch [] w1 wr) (fun _ ki _ => N - (intOf ki).toNat)
  case atStart => exact ⟨0, by omega, rfl, RowsO.empty _ _, Ch.refl _ _⟩
  case round =>
    obtain ⟨k, hk, rfl, hrows, hch1⟩ := hrel
    obtain ⟨wA, hwA⟩ : ∃ W, W = wr := ⟨_, rfl⟩
    subst hwA
    have hch := hc01.trans hch1 (by simp)
    have hsA := hch1.size
    have hs01 := hc01.size
    by_cases hlt : k < N
    · have hkN : k < K.length := by have := HN.out; omega
      obtain ⟨pb, po, rfl, hcell⟩ := strs_cell (hrd.keep hch1 (by simp)) k hkN
      have hxk := HSK.out _ (List.getElem_mem hkN)
      have e1 : (K.take (k + 1)).map (fun k => encP ⟨k, getL D k, false⟩) = (K.take k).map (fun k => encP ⟨k, getL D k, false⟩) ++ [encP ⟨K[k], getL D K[k], false⟩] := by rw [List.take_succ_eq_append_getElem hkN, List.map_append]; rfl
      have hbl2 : ((K.take k).map (fun k => encP ⟨k, getL D k, false⟩)).length ≤ 1000 := by rw [List.length_map, List.length_take]; omega
      have hlk := (hM.keep hch (by simp)).look1 K[k] (by omega)
      have hby := stbytes_any ⟨K[k], getL D K[k], false⟩ wA hxk
      generalize (K.take k).map (fun k => encP ⟨k, getL D k, false⟩) = L at *
      generalize getL D K[k] = xv at *
      generalize K[k] = xk at *
      unfold PairL.val at hby
      simp only at hby
      generalize encP ⟨xk, xv, false⟩ = B at *
      have E1 := Lib.hid e1
      clear e1
      go_wp2_with fail
      refine hby.mono ?_
      rintro e wB ⟨vB, rfl, hvB, hcB⟩
      clear hby
      have hcwB := hch.trans hcB (by simp)
      have hc1B := hch1.trans hcB (by simp)
      have hsB := hcB.size
      have hout2 := hrows.nil hcB
      obtain ⟨vs0, hv0, _⟩ := id hrows
      obtain ⟨Ao, co, rfl⟩ := own_slice hv0
      have hvB2 := hvB
      obtain ⟨A9, c9, rfl, _⟩ := hvB2
      have hrow7 := hvB.row (v := .slice Ao L.length co) (fun y hy => by have := own_lt hv0 y hy; omega) w1.heap.size (by omega)
      obtain ⟨vs, hvs1, hvs2⟩ := hout2
      have hvl : vs.length = L.length := by have := hvs1.1; simpa using this
      have hrows7 : ∀ (j : Nat) (h : j < [B].length), ∃ u, [Value.slice A9 B.length c9][j]? = some u ∧ RowO wB w1.heap.size (.slice Ao L.length co) u [B][j] := by
        intro j hj
        obtain rfl : j = 0 := by simp at hj; omega
        exact ⟨_, rfl, hrow7⟩
      have HROWS := Lib.hid hrows7
      have HVS2 := Lib.hid hvs2
      have HVL := Lib.hid hvl
      have hsw : w1.heap.size ≤ wB.heap.size := hc1B.size
      clear hrow7 hrows7 hvs2 hvl hv0 hrows
      go_wp2_with (first
        | (at_builtin; refine app_one rfl (.tmp 16) (.tmp 23) 77 45 (.slice none 0 0) 24 rfl Tryz.underlying77 Tryz.info45 rfl _ _ vs _ rfl rfl rfl hvs1 hsw (by omega) (by unfold maxLen; omega) ?_; intro v8 w8 h8 hgr8 hat8; have hc18 := hc1B.grown hgr8 (fun y hy => .inr (own_ge hvs1 y hy)))
        | fail)
      have hfin := RowsO.app HVS2.out HVL.out HROWS.out h8 hgr8 hat8 hsw
      refine ⟨⟨k + 1, by omega, by go_num, by rw [E1.out]; exact hfin, hc18⟩, ?_⟩
      simp [intOf]
      omega
    · obtain rfl : k = N := by omega
      rw [List.take_of_length_le (by have := HN.out; omega), ← HPL3.out] at hrows
      clear hlt hk
      have hrl : R.length ≤ 1000 := by rw [HPL3.out, List.length_map]; have := HN.out; omega
      obtain ⟨Al, cl, rfl, hrecs⟩ := hrows.recs [lb, b, g, m, um] (by simp; omega)
      have cA0 := cell_at (hch.at_ hcs (by simp)) 0 rfl
      have hXA : ∀ x ∈ sb :: X, x < wA.heap.size := by intro x hx; simp only [List.mem_cons] at hx; rcases hx with rfl | hx; omega; have := hX x hx; omega
      have hrs2 := reset_any Al _ cl R wA (hl.nil hch) hXA hrecs (by omega) HLE.out ht HF.out
      go_wp2_with fail
      refine hrs2.mono ?_
      rintro e w5 ⟨rfl, hl5, hc5⟩
      clear hrs2
      go_wp2_with fail
      refine (stnoted_any sb 0 w5 (by decide)).mono ?_
      rintro e w' ⟨rfl, rfl⟩
      go_wp2_with fail
      go_ret
      rw [HR.out]
      exact ⟨rfl, hl5, (hch.mono (by simp)).trans hc5 (by simp)⟩

/-- Compact, where there is room. -/
theorem stcompact_any (w : World) (h : StoreS w sb lb um b g m X n sz turn a D) (hX : ∀ x ∈ X, x < w.heap.size) (hlen : (keysL D).length ≤ 1000) (ht : turn < 4611686018427387904) (hf : commitE n sz 0 ((pairsOf D).map encP) = 0) :
    Calls Tryz.prog 24 #[.pointer (some ⟨sb, 0, none⟩)] w fun e w' => e = .returned (.int .i64 0) ∧ StoreS w' sb lb um b g m X n sz (turn + 1) (lenF sz ((pairsOf D).map encP)) D ∧ Ch [lb, b, g, m, um] w w' := by
  have hsm := h.small
  have hstr := h.strMap
  obtain ⟨mb, ps, h⟩ := h
  have hsz := h.size_le
  have c1 := cell_at h.cells 1 rfl
  have c2 := cell_at h.cells 2 rfl
  have hrs := streset_any mb mb (ps.map encP) w h.cells h.log hX h.map hsm hstr hsz hlen ht hf
  go_enter Tryz.func24, Tryz.ntmps24
  go_wp2_with fail
  refine hrs.mono ?_
  rintro e w1 ⟨rfl, hl1, hc1⟩
  go_wp2_with fail
  go_ret
  refine ⟨rfl, ⟨mb, pairsOf D, hc1.at_ h.cells (logg_out h.log), hl1, h.map.keep hc1 ?_, pairsOf_rep hstr hsm, pairsOf_ok hstr hsm, h.mX, h.mY, h.sX⟩, hc1⟩
  have := h.mX
  simp only [List.mem_cons, not_or, List.not_mem_nil, not_false_eq_true, and_true] at this ⊢
  exact ⟨this.2.1, this.2.2.2.1, this.2.2.2.2.1, this.2.2.2.2.2, this.2.2.1⟩
end

end Go.Proofs.YtbkncfedahifkaaGreat
