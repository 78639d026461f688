/-
  WalKeeps.
-/
import Derived.Test.YtbkncfedahifkaaActs4
set_option linter.unusedVariables false
set_option linter.unusedSimpArgs false
namespace Go.Proofs.Ytbkncfedahifkaa
open Go.RowKit Go.Maps

theorem lightL_le {l : List ActL} (h : lightL l = true) : l.length ≤ 30 ∧ ∀ a ∈ l, a.n ≤ 6 := by
  unfold lightL at h
  simp only [Bool.and_eq_true, decide_eq_true_eq, List.all_eq_true] at h
  exact h

theorem Logg.none {w : World} {lb um b g m n sz turn a : Nat} {X : List Nat} {rs : List (List UInt8)} (h : Logg w lb um b g m X n sz turn a rs) : Logg w lb um b g m [] n sz turn a rs := by
  obtain ⟨R, next, h1, h2⟩ := h
  exact ⟨R, next, { h1 with live := h1.live.sub (by simp), lX := by simp, uX := by simp }, h2⟩

set_option maxRecDepth 100000 in
set_option maxHeartbeats 4000000 in
theorem wal_keeps (a0 : Int) (A : Option Addr) (n c : Nat) (l : List ActL) (w : World) (ha0 : 0 ≤ a0) (ha1 : a0 < 256) (hr : Rd 2 w A n c (l.flatMap ActL.cells)) (hn : l.length = n) (hq : ∀ x ∈ l, x.ok w) :
    Calls Try.prog 17 #[.int .u8 a0, .slice A n c] w fun e w' => e = .returned (.bool true) ∧ Ch [] w w' := by
  have hcc := hr.cap
  have hcm := hr.max
  have HQ := Lib.hid hq
  clear hq
  obtain ⟨z, rfl⟩ : ∃ z : Nat, a0 = (z : Int) := ⟨a0.toNat, by omega⟩
  go_enter Try.func17, Try.ntmps17
  go_wp2_with fail
  refine (known4 w).mono ?_
  rintro e w1 ⟨rfl, hc1⟩
  have hr1 : Rd 2 w1 A n c (l.flatMap ActL.cells) := hr.keep hc1 (by simp)
  have hli := light_any A n c l w1 hr1 hn
  obtain ⟨lt, hlt⟩ : ∃ lt, lightL l = lt := ⟨_, rfl⟩
  rw [hlt] at hli
  go_wp2_with fail
  refine hli.mono ?_
  rintro e w' ⟨rfl, rfl⟩
  clear hli
  rcases lt with _ | _
  · go_wp2_with fail
    go_ret
    exact ⟨rfl, hc1⟩
  obtain ⟨hl30, hl6⟩ := lightL_le hlt
  have HL6 := Lib.hid hl6
  clear hlt hl6
  obtain ⟨K, hK⟩ : ∃ K : Nat, K = 60 + z := ⟨_, rfl⟩
  have hKi : (K : Int) = 60 + (z : Int) := by omega
  have hKb : 60 ≤ K ∧ K ≤ 315 := by omega
  have hnd := newdisk_any K 256 [] w1 (by simp) (by omega) (by omega) (by omega) (by omega)
  rw [hKi, show ((256 : Nat) : Int) = 256 from rfl] at hnd
  clear hK
  go_wp2_with fail
  refine hnd.mono ?_
  rintro e w2 ⟨b, g, m, rfl, hb, hg, hm, hd2, hc2⟩
  clear hnd
  have ho := openlog_any w2 hd2 (by simp) (by omega) (by omega) (by omega)
  simp only [List.length_nil] at ho
  go_wp2_with fail
  refine ho.mono ?_
  rintro e w3 ⟨lb, um, A0, c0, rfl, hlb, hum, hl3, hr3, hc3⟩
  clear ho hr3
  have hc03 := (hc1.trans hc2 (by simp)).trans hc3 (by simp)
  have hrm := room_any w3 hl3
  have hko := keeps_open K hKb.1
  generalize hR0 : roomN K 256 0 = R0 at *
  go_wp2_with fail
  refine hrm.mono ?_
  rintro e w' ⟨rfl, rfl⟩
  clear hrm hR0
  have hko2 : ¬ ((R0 : Int) < (60 + (z : Int)) * 256 / 4 - 1024) := by omega
  have hs2 := hc2.size
  have hs1 := hc1.size
  have hO := hl3.out
  have hsw : w.heap.size ≤ b ∧ w.heap.size ≤ g ∧ w.heap.size ≤ m := by omega
  have hq1 : w.heap.size ≤ lb := by omega
  have hq2 : w.heap.size ≤ um := by omega
  have HSW := Lib.hid hsw
  clear hsw hd2 hc1 hc2 hc3 hko
  go_wp2_with fail
  go_loopw [7, 10, 11] (fun jv av ki wr => ∃ (k lb um turn a : Nat) (rs : List (List UInt8)), k ≤ n ∧ jv = .pointer (some ⟨lb, 0, none⟩) ∧ ki = .int .i64 (k : Int) ∧ Logg wr lb um b g m [] K 256 turn a rs ∧ Held wr [lb, b, g, m, um] av rs ∧ turn ≤ k ∧ rs.length ≤ 6 * k ∧ w.heap.size ≤ lb ∧ w.heap.size ≤ um ∧ Ch [] w wr) (fun _ _ ki _ => n - (intOf ki).toNat)
  case atStart => exact ⟨0, lb, um, 0, 0, [], by omega, rfl, rfl, hl3, Held.empty _ _, by omega, by simp, hq1, hq2, hc03⟩
  case round =>
    clear hq1 hq2 hlb hum hl3 hO hko2 hs1 hs2 hc03
    obtain ⟨k, lb, um, turn, a, rs, hk, rfl, rfl, hlA, hHA, ht, hrl, q1, q2, hch⟩ := hrel
    obtain ⟨wA, hwA⟩ : ∃ W, W = wr := ⟨_, rfl⟩
    subst hwA
    have hOA := hlA.out
    obtain ⟨Aa, ca, rfl, _⟩ := hHA.recs
    by_cases hlt : k < n
    · have hrA : Rd 2 wA A n c (l.flatMap ActL.cells) := hr.keep hch (by simp)
      obtain ⟨pb, po, rfl, hw0, hw1⟩ := acts_cells hrA k (by omega) hn
      have hxk := (HQ.out _ (List.getElem_mem (l := l) (n := k) (by omega))).nil hch
      have hx6 := HL6.out _ (List.getElem_mem (l := l) (n := k) (by omega))
      generalize l[k]'(by omega) = x at *
      obtain ⟨xw, xA, xn, xc, xl⟩ := x
      obtain ⟨hxw, hxr⟩ := hxk
      simp only at hw0 hw1 hxw hxr hx6
      have hba := batch_any k xA xn xc xl wA hxr (by omega) (by omega)
      go_wp2_with fail
      refine hba.mono ?_
      rintro e wB ⟨v6, rfl, hrB, hcB⟩
      clear hba hrA
      have hbl := batchL_length k xl
      have hbs := batchL_small k xl
      rw [hxr.length] at hbl
      obtain ⟨bs, hbe⟩ : ∃ bs, batchL k xl = bs := ⟨_, rfl⟩
      rw [hbe] at hbl hbs hrB
      have hHb := hrB.held (F := [lb, b, g, m, um]) (by simp; omega)
      obtain ⟨A6, c6, rfl, hk6⟩ := hHb.recs
      have hlB := hlA.nil hcB
      have hHB := hHA.nil hcB
      have hsB := hcB.size
      have hcwB := hch.trans hcB (by simp)
      have hrm := room_any wB hlB
      have hw0B := hcB.cell hw0 (by simp)
      clear hlA hHA hrB hcB hw0 hw1 hxr hbe
      generalize hR : roomN K 256 a = R at *
      have HBL := Lib.hid hbl
      have HBS := Lib.hid hbs
      have HR := Lib.hid hR
      have HX6 := Lib.hid hx6
      clear hbl hbs hR hx6
      go_wp2_with fail
      refine hrm.mono ?_
      rintro e w' ⟨rfl, rfl⟩
      clear hrm
      by_cases h5 : xw = 5
      · subst h5
        have ho := openlog_any wB hlB.disk (by simp; omega) (by omega) (by omega) (by omega)
        go_wp2_with fail
        refine ho.mono ?_
        rintro e wC ⟨lb2, um2, A2, c2, rfl, hlb2, hum2, hlC, hrC, hcC⟩
        clear ho
        obtain ⟨_, _, e2, hk2⟩ := hrC.recs [] (by simp)
        simp only [Value.slice.injEq, true_and] at e2
        obtain ⟨rfl, rfl⟩ := e2
        have hHC := ((hHB.add hlb2).add hum2).nil hcC
        obtain ⟨_, _, e4, hk4⟩ := hHC.recs
        simp only [Value.slice.injEq, true_and] at e4
        obtain ⟨rfl, rfl⟩ := e4
        have hsm := same_any A2 Aa _ _ c2 ca [] _ rs rs wC hk2 hk4 (by omega) (by omega)
        simp only [decide_true] at hsm
        go_wp2_with fail
        refine hsm.mono ?_
        rintro e wD ⟨rfl, hcD⟩
        clear hsm hk2 hk4
        have hlD := (hlC.none).nil hcD
        have hHD := (hHC.nil hcD).sub (G := [lb2, b, g, m, um2]) (by simp)
        have hcwD := (hcwB.trans hcC (by simp)).trans hcD (by simp)
        have hs3 := hch.size
        clear hlC hHC
        go_wp2_with fail
        refine ⟨⟨k + 1, lb2, um2, turn, a, rs, by omega, rfl, by go_num, hlD, hHD, by omega, by omega, by omega, by omega, hcwD⟩, ?_⟩
        simp [intOf]
        omega
      by_cases h4 : xw = 4
      · subst h4
        rcases commitE_two K 256 0 bs HBS.out with ⟨hce, hfit⟩ | ⟨hce, hful⟩
        · have hrs2 := reset_any A6 _ c6 bs wB hlB (by simp) hk6 (by have := HBL.out; have := HX6.out; omega) (fun r hr => by have := HBS.out r hr; omega) (by omega) hce
          go_wp2_with fail
          refine hrs2.mono ?_
          rintro e wC ⟨rfl, hlC, hcC⟩
          clear hrs2
          have hHC := hHb.keep hcC (by simp)
          have hcwC := hcwB.trans hcC (by have := HSW.out; intro y hy; simp at hy; omega)
          have hct := count_any wC hlC
          go_wp2_with fail
          refine hct.mono ?_
          rintro e w' ⟨rfl, rfl⟩
          clear hct
          go_wp2_with fail
          refine ⟨⟨k + 1, lb, um, turn + 1, _, bs, by omega, rfl, by go_num, hlC, hHC, by omega, by have := HBL.out; have := HX6.out; omega, by omega, by omega, hcwC⟩, ?_⟩
          simp [intOf]
          omega
        · have hno := reset_no A6 _ c6 [lb, b, g, m, um] bs wB hlB hk6 (by have := HBL.out; have := HX6.out; omega) (fun r hr => by have := HBS.out r hr; omega) (by rw [hce]; decide) (by omega)
          rw [hce] at hno
          go_wp2_with fail
          refine hno.mono ?_
          rintro e wC ⟨rfl, hcC⟩
          clear hno
          have hsz := size_rows A6 _ c6 [lb, b, g, m, um] bs wC (hk6.nil hcC) (by have := HBL.out; have := HX6.out; omega) (fun r hr => by have := HBS.out r hr; omega)
          have hkr := keeps_reset K bs hKb.1 hful
          have hkr2 : ¬ ((sizeL bs : Int) ≤ (60 + (z : Int)) * 256 / 4 - 1536) := by omega
          generalize sizeL bs = Z at *
          go_wp2_with fail
          refine hsz.mono ?_
          rintro e w' ⟨rfl, rfl⟩
          clear hsz
          have hlC := hlB.nil hcC
          have hHC := hHB.nil hcC
          have hcwC := hcwB.trans hcC (by simp)
          clear hkr hful
          go_wp2_with fail
          have hct := count_any wC hlC
          go_wp2_with fail
          refine hct.mono ?_
          rintro e w' ⟨rfl, rfl⟩
          clear hct
          go_wp2_with fail
          refine ⟨⟨k + 1, lb, um, turn, a, rs, by omega, rfl, by go_num, hlC, hHC, by omega, by omega, by omega, by omega, hcwC⟩, ?_⟩
          simp [intOf]
          omega
      · rcases commitE_two K 256 a bs HBS.out with ⟨hce, hfit⟩ | ⟨hce, hful⟩
        · have hcm2 := commit_any A6 _ c6 bs wB hlB (by simp) hk6 (by have := HBL.out; have := HX6.out; omega) (fun r hr => by have := HBS.out r hr; omega) (by omega) hce (by omega)
          go_wp2_with fail
          refine hcm2.mono ?_
          rintro e wC ⟨rfl, hlC, hcC⟩
          clear hcm2
          have hHbC := hHb.keep hcC (by simp)
          have hHC := hHB.keep hcC (by simp)
          have hOC := hlC.out
          have hcwC := hcwB.trans hcC (by have := HSW.out; intro y hy; simp at hy; omega)
          obtain ⟨Ax, cx, vs, ex, hvr, hvo, hvs⟩ := hHC.one
          simp only [Value.slice.injEq, true_and] at ex
          obtain ⟨rfl, rfl⟩ := ex
          obtain ⟨Ay, cy, us, ey, hur, huo, hus⟩ := hHbC.one
          simp only [Value.slice.injEq, true_and] at ey
          obtain ⟨rfl, rfl⟩ := ey
          have hbn : bs.length ≤ 6 := by have := HBL.out; have := HX6.out; omega
          have hbn2 := bs.length
          have hrn : rs.length ≤ 180 := by omega
          have HVS := Lib.hid hvs
          have HUS := Lib.hid hus
          have hvl : vs.length = rs.length := by have := hvr.len; simpa using this
          have HVL := Lib.hid hvl
          have HVO := Lib.hid hvo
          have HUO := Lib.hid huo
          have HFIT := Lib.hid hfit
          clear hvs hus hvl hvo huo hfit hbn2
          have hgg : ∀ y ∈ [lb, b, g, m, um], y < wC.heap.size := by simp; omega
          have HGG := Lib.hid hgg
          clear hgg
          have hla : (rs ++ bs).length = rs.length + bs.length := List.length_append
          have HLA := Lib.hid hla
          clear hla
          go_wp2_with (first
            | (at_builtin; refine app_rd rfl (.const (.slice none 0 0)) (.tmp 91) 64 28 (.slice none 0 0) 1 24 (by omega) rfl Try.underlying64 Try.info28 rfl (.slice none 0 0) 0 [] vs Aa _ ca rfl rfl HVO.out (World.ownsRow_nil wC wC.heap.size 28 1) hvr (Nat.le_refl _) (by omega) (by unfold maxLen; omega) ?_; intro v7 w7 h7 hgr7 hat7; rw [Nat.zero_add, List.nil_append] at h7; have hc7 : Ch [] wC w7 := (Ch.refl [] wC).grown hgr7 (by intro k hk; cases hk); have hs7 := hc7.size; have hur7 : Rd 1 w7 A6 bs.length c6 us := hur.keep hc7 (by simp); obtain ⟨A7, c7, rfl⟩ := own_slice h7)
            | (at_builtin; refine app_rd rfl (.tmp 92) (.tmp 93) 64 28 (.slice none 0 0) 1 24 (by omega) rfl Try.underlying64 Try.info28 rfl (.slice A7 rs.length c7) rs.length vs us A6 _ c6 rfl rfl HUO.out h7 hur7 hs7 (by omega) (by unfold maxLen; omega) ?_; intro v8 w8 h8 hgr8 hat8; have hc8 : Ch [] wC w8 := hc7.grown hgr8 (fun y hy => .inr (own_ge h7 y hy)); rw [← HLA.out] at h8; obtain ⟨A8, c8, rfl⟩ := own_slice h8; have hl8 := hlC.nil hc8)
            | fail)
          have hH8 : Held w8 [lb, b, g, m, um] (.slice A8 (rs ++ bs).length c8) (rs ++ bs) := by
            refine own_held (base := wC.heap.size) h8 (fun y hy => .inl (HGG.out y hy)) (held_app HVL.out (fun i hi => ?_) (fun i hi => ?_))
            · obtain ⟨u, r1, r2⟩ := HVS.out i hi
              exact ⟨u, r1, r2.keep hc8 (by simp)⟩
            · obtain ⟨u, r1, r2⟩ := HUS.out i hi
              exact ⟨u, r1, r2.keep hc8 (by simp)⟩
          have hrm8 := room_any w8 hl8
          have hkf := keeps_fit K a bs HFIT.out
          rw [HR.out] at hkf
          have hRb : R ≤ 40000 := by have := HR.out; unfold roomN at this; omega
          have hZ : sizeL bs ≤ 2000 := by have := body_size bs; have := bodyB_le bs 255 HBS.out; omega
          have hkb8 : Held w8 [lb, b, g, m, um] (.slice A6 bs.length c6) bs := hHbC.nil hc8
          obtain ⟨_, _, e8, hk8⟩ := hkb8.recs
          simp only [Value.slice.injEq, true_and] at e8
          obtain ⟨rfl, rfl⟩ := e8
          have hsz := size_rows A6 _ c6 [lb, b, g, m, um] bs w8 hk8 (by omega) (fun r hr => by have := HBS.out r hr; omega)
          have hct := count_any w8 hl8
          rw [HLA.out] at hct hH8
          generalize roomN K 256 (a + lenF 256 bs) = R8 at *
          generalize sizeL bs = Z at *
          have hkf2 : ¬ ((R8 : Int) < (R : Int) - (Z : Int) - 512) := by omega
          clear hkf hk8 hkb8 hHbC hHC hlC hk6 hlB hHB hHb hur hvr h7 h8 hgr7 hgr8 hat7 hat8 hur7
          refine hrm8.mono ?_
          rintro e w' ⟨rfl, rfl⟩
          clear hrm8
          go_wp2_with fail
          refine hsz.mono ?_
          rintro e w' ⟨rfl, rfl⟩
          clear hsz
          go_wp2_with fail
          refine hct.mono ?_
          rintro e w' ⟨rfl, rfl⟩
          clear hct
          go_wp2_with fail
          refine ⟨⟨k + 1, lb, um, turn, _, rs ++ bs, by omega, rfl, by go_num, hl8, hH8, by omega, by rw [HLA.out]; omega, by omega, by omega, hcwC.trans hc8 (by simp)⟩, ?_⟩
          simp [intOf]
          omega
        · have hno := commit_no A6 _ c6 [lb, b, g, m, um] bs wB hlB hk6 (by have := HBL.out; have := HX6.out; omega) (fun r hr => by have := HBS.out r hr; omega) (by rw [hce]; decide)
          rw [hce] at hno
          go_wp2_with fail
          refine hno.mono ?_
          rintro e wC ⟨rfl, hcC⟩
          clear hno
          have hsz := size_rows A6 _ c6 [lb, b, g, m, um] bs wC (hk6.nil hcC) (by have := HBL.out; have := HX6.out; omega) (fun r hr => by have := HBS.out r hr; omega)
          have hkr := keeps_full K a bs hful
          rw [HR.out] at hkr
          have hkr2 : ¬ ((sizeL bs : Int) + 512 ≤ (R : Int)) := by omega
          have hZ : sizeL bs ≤ 2000 := by have := body_size bs; have := bodyB_le bs 255 HBS.out; have := HBL.out; have := HX6.out; omega
          generalize sizeL bs = Z at *
          go_wp2_with fail
          refine hsz.mono ?_
          rintro e w' ⟨rfl, rfl⟩
          clear hsz
          have hlC := hlB.nil hcC
          have hHC := hHB.nil hcC
          have hcwC := hcwB.trans hcC (by simp)
          clear hkr hful
          go_wp2_with fail
          have hct := count_any wC hlC
          go_wp2_with fail
          refine hct.mono ?_
          rintro e w' ⟨rfl, rfl⟩
          clear hct
          go_wp2_with fail
          refine ⟨⟨k + 1, lb, um, turn, a, rs, by omega, rfl, by go_num, hlC, hHC, by omega, by omega, by omega, by omega, hcwC⟩, ?_⟩
          simp [intOf]
          omega
    · obtain rfl : k = n := by omega
      clear hlt hk
      have ho := openlog_any wA hlA.disk (by simp; omega) (by omega) (by omega) (by omega)
      go_wp2_with fail
      refine ho.mono ?_
      rintro e wC ⟨lb2, um2, A2, c2, rfl, hlb2, hum2, hlC, hrC, hcC⟩
      clear ho
      obtain ⟨_, _, e2, hk2⟩ := hrC.recs [] (by simp)
      simp only [Value.slice.injEq, true_and] at e2
      obtain ⟨rfl, rfl⟩ := e2
      have hHC := hHA.nil hcC
      obtain ⟨_, _, e4, hk4⟩ := hHC.recs
      simp only [Value.slice.injEq, true_and] at e4
      obtain ⟨rfl, rfl⟩ := e4
      have hsm := same_any A2 Aa _ _ c2 ca [] _ rs rs wC hk2 hk4 (by omega) (by omega)
      simp only [decide_true] at hsm
      go_wp2_with fail
      refine hsm.mono ?_
      rintro e wD ⟨rfl, hcD⟩
      go_wp2_with fail
      go_ret
      exact ⟨rfl, (hch.trans hcC (by simp)).trans hcD (by simp)⟩

end Go.Proofs.Ytbkncfedahifkaa
