/-
  Package store: Apply, where the log is full, and the map has room.
-/
import Derived.Test.YtbkncfedahifkaaGreatStReset
set_option linter.unusedVariables false
set_option linter.unusedSimpArgs false
namespace Go.Proofs.YtbkncfedahifkaaGreat
open Go.RowKit Go.Maps Go.Sort Go.Shelf

theorem commitE_full (n sz a : Nat) (rs : List (List UInt8)) (h : ∀ r ∈ rs, r.length ≤ 1048576) (hf : (n / 2 - a) * (sz - 16) < 32 + (bodyB rs).length) : commitE n sz a rs = 40 := by
  unfold commitE
  rw [if_neg, if_neg (by omega)]
  intro hx
  obtain ⟨r, h1, h2⟩ := List.any_eq_true.1 hx
  have := h r h1
  simp [longB] at h2
  omega

theorem strMap_isMap {D : Mp} (h : StrMap D) : IsMap D := by obtain ⟨es, rfl, _⟩ := h; exact ⟨_, rfl⟩
theorem size_keysL {D : Mp} (h : IsMap D) : Maps.size D = (keysL D).length := by
  obtain ⟨es, rfl⟩ := h
  rw [(keysL_perm _).length_eq, size_eq]
  simp [strKeys]

section
variable {sb lb um b g m n sz turn a : Nat} {X : List Nat} {D : Mp}
set_option maxRecDepth 100000 in
set_option maxHeartbeats 4000000 in
theorem stapply_full (A : Option Addr) (q c : Nat) (qs : List PairL) (w : World) (h : StoreS w sb lb um b g m X n sz turn a D) (hX : ∀ x ∈ X, x < w.heap.size) (hr : Rd 3 w A q c (qs.flatMap PairL.cells)) (hq : qs.length = q) (hq1 : q ≤ 1000) (hok : ∀ p ∈ qs, p.ok)
    (ht : turn < 4611686018427387904) (hf : commitE n sz a (qs.map encP) = 40)
    (hf0 : commitE n sz 0 ((pairsOf (chgs D qs)).map encP) = 0) (hlen : (keysL (chgs D qs)).length ≤ 1000) :
    Calls Tryz.prog 15 #[.pointer (some ⟨sb, 0, none⟩), .slice A q c] w fun e w' => e = .returned (.int .i64 0) ∧ StoreS w' sb lb um b g m X n sz (turn + 1) (lenF sz ((pairsOf (chgs D qs)).map encP)) (chgs D qs) ∧ Ch [sb, lb, um, b, g, m] w w' := by
  have hcc := hr.cap
  have hcm := hr.max
  have hout := h.out
  have hstr := strMap_chgs h.strMap hok
  have hsm := small_chgs h.small (strMap_isMap h.strMap) hok
  have HSTR := Lib.hid hstr
  have HSM := Lib.hid hsm
  have HF0 := Lib.hid hf0
  have HLEN := Lib.hid hlen
  have hszc := size_keysL (strMap_isMap hstr)
  have htd := (size_chgs qs D (by obtain ⟨mb, ps, h⟩ := h; exact World.ownsMap.tidy h.map skeyed)).2
  rw [← hszc] at hlen
  have HLEN2 := Lib.hid hlen
  clear hstr hsm hf0 hlen hszc
  obtain ⟨mb, ps, h⟩ := h
  have hszD := h.size_le
  have hsO := hout.1
  have c1 := cell_at h.cells 1 rfl
  have c2 := cell_at h.cells 2 rfl
  have HOK := Lib.hid hok
  have HF := Lib.hid hf
  clear hok hf
  go_enter Tryz.func15, Tryz.ntmps15
  go_wp2_with fail
  go_loopw [5, 16] (fun v ki wr => ∃ k : Nat, k ≤ q ∧ ki = .int .i64 (k : Int) ∧ RowsO wr w.heap.size v ((qs.take k).map encP) ∧ Ch [] w wr) (fun _ ki _ => q - (intOf ki).toNat)
  case atStart => exact ⟨0, by omega, rfl, RowsO.empty _ _, Ch.refl _ _⟩
  case round =>
    obtain ⟨k, hk, rfl, hrows, hch⟩ := hrel
    obtain ⟨wA, hwA⟩ : ∃ W, W = wr := ⟨_, rfl⟩
    subst hwA
    have hsA := hch.size
    by_cases hlt : k < q
    · obtain ⟨pb, po, rfl, d0, d1, d2⟩ := pairs_cells (hr.keep hch (by simp)) k (by omega) hq
      have hx := HOK.out _ (List.getElem_mem (l := qs) (n := k) (by omega))
      have e1 : (qs.take (k + 1)).map encP = (qs.take k).map encP ++ [encP (qs[k]'(by omega))] := by rw [List.take_succ_eq_append_getElem (by omega), List.map_append]; rfl
      have hbl2 : ((qs.take k).map encP).length ≤ 1000 := by rw [List.length_map, List.length_take]; omega
      generalize (qs.take k).map encP = L at hrows e1 hbl2
      have E1 := Lib.hid e1
      clear e1
      generalize qs[k]'(by omega) = x at *
      obtain ⟨xk, xv, xg⟩ := x
      obtain ⟨hx1, hx2⟩ := hx
      simp only at hx1 hx2 d0 d1 d2
      have hz1 : (str xk).size ≤ 1000 := by rw [str_size]; exact hx1
      have hz2 : (str xv).size ≤ 1000 := by rw [str_size]; exact hx2
      have hcX : Ch [] wA (wA.alloc (.cells #[.string (str xk), .string (str xv), .bool xg] 32)) := (Ch.refl [] wA).alloc _
      have hbX := heap_alloc_new wA (.cells #[.string (str xk), .string (str xv), .bool xg] 32)
      have f0 := cell_at hbX 0 rfl
      have f1 := cell_at hbX 1 rfl
      have f2 := cell_at hbX 2 rfl
      have hby := stbytes_any ⟨xk, xv, xg⟩ (wA.alloc (.cells #[.string (str xk), .string (str xv), .bool xg] 32)) ⟨hx1, hx2⟩
      unfold PairL.val at hby
      simp only at hby
      cases xg
      · go_wp2_with fail
        refine hby.mono ?_
        rintro e wB ⟨vB, rfl, hvB, hcB⟩
        clear hby
        have hcAB := hcX.trans hcB (by simp)
        have hcwB := hch.trans hcAB (by simp)
        have hsX : wA.heap.size < (wA.alloc (.cells #[.string (str xk), .string (str xv), .bool false] 32)).heap.size := by simp
        have hsB := hcB.size
        have hout2 := hrows.nil hcAB
        obtain ⟨vs0, hv0, _⟩ := id hrows
        obtain ⟨Ao, co, rfl⟩ := own_slice hv0
        have E1' := E1.out
        generalize encP ⟨xk, xv, false⟩ = B at *
        have E1 := Lib.hid E1'
        clear E1'
        have hvB2 := hvB
        obtain ⟨A9, c9, rfl, _⟩ := hvB2
        have hrow7 := hvB.row (v := .slice Ao L.length co) (fun y hy => by have := own_lt hv0 y hy; omega) w.heap.size (by omega)
        obtain ⟨vs, hvs1, hvs2⟩ := hout2
        have hvl : vs.length = L.length := by have := hvs1.1; simpa using this
        have hrows7 : ∀ (j : Nat) (h : j < [B].length), ∃ u, [Value.slice A9 B.length c9][j]? = some u ∧ RowO wB w.heap.size (.slice Ao L.length co) u [B][j] := by
          intro j hj
          obtain rfl : j = 0 := by simp at hj; omega
          exact ⟨_, rfl, hrow7⟩
        have HROWS := Lib.hid hrows7
        have HVS2 := Lib.hid hvs2
        have HVL := Lib.hid hvl
        have hsw : w.heap.size ≤ wB.heap.size := hcwB.size
        clear hrow7 hrows7 hvs2 hvl hv0 hrows
        go_wp2_with (first
          | (at_builtin; refine app_one rfl (.tmp 39) (.tmp 42) 77 45 (.slice none 0 0) 24 rfl Tryz.underlying77 Tryz.info45 rfl _ _ vs _ rfl rfl rfl hvs1 hsw (by omega) (by unfold maxLen; omega) ?_; intro v8 w8 h8 hgr8 hat8; have hc8 := hcwB.grown hgr8 (fun y hy => .inr (own_ge hvs1 y hy)))
          | fail)
        have hfin := RowsO.app HVS2.out HVL.out HROWS.out h8 hgr8 hat8 hsw
        refine ⟨⟨k + 1, by omega, by go_num, by rw [E1.out]; exact hfin, hc8⟩, ?_⟩
        simp [intOf]
        omega
      · go_wp2_with fail
        refine hby.mono ?_
        rintro e wB ⟨vB, rfl, hvB, hcB⟩
        clear hby
        have hcAB := hcX.trans hcB (by simp)
        have hcwB := hch.trans hcAB (by simp)
        have hsX : wA.heap.size < (wA.alloc (.cells #[.string (str xk), .string (str xv), .bool true] 32)).heap.size := by simp
        have hsB := hcB.size
        have hout2 := hrows.nil hcAB
        obtain ⟨vs0, hv0, _⟩ := id hrows
        obtain ⟨Ao, co, rfl⟩ := own_slice hv0
        have E1' := E1.out
        generalize encP ⟨xk, xv, true⟩ = B at *
        have E1 := Lib.hid E1'
        clear E1'
        have hvB2 := hvB
        obtain ⟨A9, c9, rfl, _⟩ := hvB2
        have hrow7 := hvB.row (v := .slice Ao L.length co) (fun y hy => by have := own_lt hv0 y hy; omega) w.heap.size (by omega)
        obtain ⟨vs, hvs1, hvs2⟩ := hout2
        have hvl : vs.length = L.length := by have := hvs1.1; simpa using this
        have hrows7 : ∀ (j : Nat) (h : j < [B].length), ∃ u, [Value.slice A9 B.length c9][j]? = some u ∧ RowO wB w.heap.size (.slice Ao L.length co) u [B][j] := by
          intro j hj
          obtain rfl : j = 0 := by simp at hj; omega
          exact ⟨_, rfl, hrow7⟩
        have HROWS := Lib.hid hrows7
        have HVS2 := Lib.hid hvs2
        have HVL := Lib.hid hvl
        have hsw : w.heap.size ≤ wB.heap.size := hcwB.size
        clear hrow7 hrows7 hvs2 hvl hv0 hrows
        go_wp2_with (first
          | (at_builtin; refine app_one rfl (.tmp 39) (.tmp 42) 77 45 (.slice none 0 0) 24 rfl Tryz.underlying77 Tryz.info45 rfl _ _ vs _ rfl rfl rfl hvs1 hsw (by omega) (by unfold maxLen; omega) ?_; intro v8 w8 h8 hgr8 hat8; have hc8 := hcwB.grown hgr8 (fun y hy => .inr (own_ge hvs1 y hy)))
          | fail)
        have hfin := RowsO.app HVS2.out HVL.out HROWS.out h8 hgr8 hat8 hsw
        refine ⟨⟨k + 1, by omega, by go_num, by rw [E1.out]; exact hfin, hc8⟩, ?_⟩
        simp [intOf]
        omega
    · obtain rfl : k = q := by omega
      rw [List.take_of_length_le (by omega)] at hrows
      clear hlt hk
      have hln : (qs.map encP).length ≤ 1000 := by rw [List.length_map]; omega
      have hle : ∀ r ∈ qs.map encP, r.length ≤ 1000000000000 := by intro r hr2; obtain ⟨p, hp, rfl⟩ := List.mem_map.1 hr2; have := encP_length (HOK.out p hp); omega
      obtain ⟨L, hL⟩ : ∃ L, qs.map encP = L := ⟨_, rfl⟩
      rw [hL] at hrows hln hle
      have HL := Lib.hid hL
      have HLE := Lib.hid hle
      clear hL hle
      obtain ⟨Al, cl, rfl, hrecs⟩ := hrows.recs [lb, b, g, m, um] (by simp; omega)
      have hA := h.nil hch
      have cA1 := cell_at hA.cells 1 rfl
      have hmcl := mclone_any mb D wA hA.map
      have hgen : w.heap.size ≤ wA.heap.size := hch.size
      generalize hmc : wA.heap.size = mc at *
      have HMC := Lib.hid hmc
      clear hmc
      go_wp2_with fail
      refine hmcl.mono ?_
      rintro e w3 ⟨rfl, hM3, hlt3, hc3⟩
      clear hmcl
      have hw3 : Ch [] w w3 := hch.trans hc3 (by simp)
      have hchg := stchange_any mc D A _ c qs w3 hM3 (hr.keep hw3 (by simp)) hq HOK.out (by omega)
      go_wp2_with fail
      refine hchg.mono ?_
      rintro e w4 ⟨rfl, hM4, hc4⟩
      clear hchg
      have hcA4 : Ch [] wA w4 := hc3.trans hc4 (by have := HMC.out; simp; omega)
      have hA4 := hA.nil hcA4
      have c40 := cell_at hA4.cells 0 rfl
      have hs4 := hcA4.size
      have hw4 : Ch [] w w4 := hch.trans hcA4 (by simp)
      have hA4l := hA4.log
      have hno := commit_no Al _ cl [lb, b, g, m, um] L w4 hA4l (hrecs.nil hcA4) (by omega) HLE.out (by rw [← HL.out, HF.out]; decide)
      have hcE : commitE n sz a L = 40 := by rw [← HL.out]; exact HF.out
      rw [hcE] at hno
      clear hcE
      go_wp2_with fail
      refine hno.mono ?_
      rintro e w5 ⟨rfl, hc5⟩
      clear hno
      go_wp2_with fail
      refine (stnoted_any sb 40 w5 (by decide)).mono ?_
      rintro e w' ⟨rfl, rfl⟩
      have hA5 := hA4.nil hc5
      have hM5 := hM4.keep hc5 (by simp)
      have hrs := streset_any (X := X) mc mb (ps.map encP) w5 hA5.cells hA5.log (by have := hw4.size; have := hc5.size; intro x hx; have := hX x hx; omega) hM5 HSM.out HSTR.out (by have := HLEN2.out; omega) HLEN.out ht HF0.out
      go_wp2_with fail
      refine hrs.mono ?_
      rintro e w6 ⟨rfl, hl6, hc6⟩
      clear hrs
      have hw5 := hw4.trans hc5 (by simp)
      have hsbF := logg_out hA5.log
      have hb6 := hc6.at_ hA5.cells hsbF
      have f61 := free_at hb6 1
      have c61 := cell_at hb6 1 rfl
      go_wp2_with fail
      go_ret
      have hb7 := heap_setCell_same w6 sb 1 _ 101 (.map (some mc)) hb6
      have hc7 : Ch [sb] w6 (w6.setCell ⟨sb, 1, none⟩ (.map (some mc))) := (Ch.refl [sb] w6).setCell _ _ (by simp)
      have hmX : ∀ x, x < w.heap.size → mc ≠ x := fun x hx => by omega
      refine ⟨rfl, ⟨mc, pairsOf (chgs D qs), hb7, hl6.keep (hc7.mono (by simp)), (hM5.keep hc6 ?_).keep hc7 ?_, pairsOf_rep HSTR.out HSM.out, pairsOf_ok HSTR.out HSM.out, ?_, fun hm => hmX _ (hX _ hm) rfl, h.sX⟩, ?_⟩
      · simp only [List.mem_cons, List.not_mem_nil, or_false, not_or]; exact ⟨hmX _ hout.2.1, hmX _ hout.2.2.2.1, hmX _ hout.2.2.2.2.1, hmX _ hout.2.2.2.2.2, hmX _ hout.2.2.1⟩
      · simp only [List.mem_cons, List.not_mem_nil, or_false]; exact hmX _ hsO
      · simp only [List.mem_cons, List.not_mem_nil, or_false, not_or]; exact ⟨hmX _ hsO, hmX _ hout.2.1, hmX _ hout.2.2.1, hmX _ hout.2.2.2.1, hmX _ hout.2.2.2.2.1, hmX _ hout.2.2.2.2.2⟩
      · exact ((hw5.mono (by simp)).trans hc6 (by simp)).trans hc7 (by simp)
end

end Go.Proofs.YtbkncfedahifkaaGreat
