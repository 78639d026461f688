/-
  The statements of layer 5: pairs.
-/
import Derived.Test.YtbkncfedahifkaaGreatLAlike
set_option linter.unusedVariables false
set_option linter.unusedSimpArgs false
namespace Go.Proofs.YtbkncfedahifkaaGreat
open Go.RowKit Go.Maps Go.Sort Go.Shelf

/-- A pair of the statements: a key's number, a length, whether it goes. -/
structure P5 where
  K : Nat
  N : Nat
  gone : Bool
def P5.cells (a : P5) : List Value := [.int .u8 (a.K : Int), .int .u8 (a.N : Int), .bool a.gone]
def P5.ok (a : P5) : Prop := a.K < 256 ∧ a.N < 256
/-- What they may come to. -/
def GoodP (ps : List PairL) : Prop := ∀ p ∈ ps, p.ok ∧ p.k.length ≤ 3 ∧ p.v.length ≤ 255 ∧ ∃ j, j < 7 ∧ p.k = keyN j
theorem GoodP.fits {ps : List PairL} (h : GoodP ps) : ∀ p ∈ ps, p.ok ∧ p.k.length ≤ 3 ∧ p.v.length ≤ 255 := fun p hp => ⟨(h p hp).1, (h p hp).2.1, (h p hp).2.2.1⟩
theorem p5_cells {w : World} {A : Option Addr} {n c : Nat} {l : List P5} (h : Rd 3 w A n c (l.flatMap P5.cells)) (k : Nat) (hk : k < l.length) (hn : l.length = n) :
    ∃ b o, A = some ⟨b, o, none⟩ ∧ w.cell? ⟨b, o + k * 3, none⟩ = some (.int .u8 (l[k].K : Int)) ∧ w.cell? ⟨b, o + k * 3 + 1, none⟩ = some (.int .u8 (l[k].N : Int)) ∧ w.cell? ⟨b, o + k * 3 + 2, none⟩ = some (.bool l[k].gone) := by
  obtain ⟨b, o, e, hc⟩ := h.cells (by omega)
  have q : ∀ i, i < 3 → (l.flatMap P5.cells)[k * 3 + i]? = (P5.cells l[k])[i]? := fun i hi => flatMap_even_get P5.cells 3 (fun _ => rfl) l k hk i hi
  refine ⟨b, o, e, hc (k * 3) _ ?_, ?_, ?_⟩
  · have := q 0 (by omega)
    rw [Nat.add_zero] at this
    rw [this]; rfl
  · rw [Nat.add_assoc]
    exact hc (k * 3 + 1) _ (by rw [q 1 (by omega)]; rfl)
  · rw [Nat.add_assoc]
    exact hc (k * 3 + 2) _ (by rw [q 2 (by omega)]; rfl)
theorem Tryz.info32 : (Tryz.prog.info? 32).map (fun i => (i.zero, i.size, i.bytes)) = some (some (.agg #[.string ⟨#[]⟩, .string ⟨#[]⟩, .bool false]), 3, 40) := by kernel_rfl
theorem pcells_one (ps : List PairL) : ∀ u ∈ ps.flatMap PairL.cells, u.oneCell' = true := by
  intro u hu
  obtain ⟨p, _, hp⟩ := List.mem_flatMap.1 hu
  simp only [PairL.cells, List.mem_cons, List.not_mem_nil, or_false] at hp
  rcases hp with rfl | rfl | rfl <;> rfl

theorem alloc_facts {a cur : World} (h : Ch [] a cur) (cs : Array Value) (t : TypeId) : ∃ (y : Nat) (W : World), cur.alloc (.cells cs t) = W ∧ cur.heap.size = y ∧ W.heap[y]? = some (.cells cs t (0, 0)) ∧ Ch [] a W ∧ a.heap.size ≤ y :=
  ⟨_, _, rfl, rfl, heap_alloc_new cur _, h.alloc _, h.size⟩

theorem store3 {a cur : World} {y : Nat} {z0 z1 z2 : Value} {t : TypeId} (hy : cur.heap[y]? = some (.cells #[z0, z1, z2] t (0, 0))) (h : Ch [] a cur) (hl : a.heap.size ≤ y) (v0 v1 v2 : Value) :
    ∃ W, ((cur.setCell ⟨y, 0, none⟩ v0).setCell ⟨y, 1, none⟩ v1).setCell ⟨y, 2, none⟩ v2 = W ∧ W.heap[y]? = some (.cells #[v0, v1, v2] t (0, 0)) ∧ Ch [] a W :=
  ⟨_, rfl, heap_setCell_same _ y 2 _ t v2 (heap_setCell_same _ y 1 _ t v1 (heap_setCell_same cur y 0 _ t v0 hy)), ((h.setCell ⟨y, 0, none⟩ v0 (.inr hl)).setCell ⟨y, 1, none⟩ v1 (.inr hl)).setCell ⟨y, 2, none⟩ v2 (.inr hl)⟩

set_option maxRecDepth 100000 in
set_option maxHeartbeats 8000000 in
theorem pairs5_any (i : Nat) (A : Option Addr) (n c : Nat) (l : List P5) (mm : Nat) (D : Mp) (w : World) (hr : Rd 3 w A n c (l.flatMap P5.cells)) (hn : l.length = n) (hok : ∀ x ∈ l, x.ok) (hM : IsM w mm D) (hi : i ≤ 100000) (hnn : n ≤ 1000) (hsz : Maps.size D ≤ 1000000) :
    Calls Tryz.prog 19 #[.int .i64 (i : Int), .slice A n c, .map (some mm)] w fun e w' => ∃ (v : Value) (ps : List PairL), e = .returned v ∧ w'.ownsRow w.heap.size 32 3 v n (ps.flatMap PairL.cells) ∧ ps.length = n ∧ GoodP ps ∧ IsM w' mm (chgs D ps) ∧ Ch [mm] w w' := by
  have hcc := hr.cap
  have hcm := hr.max
  have hmlt := hM.lt
  have HOK := Lib.hid hok
  clear hok
  go_enter Tryz.func19, Tryz.ntmps19
  go_wp2_with fail
  go_loopw [7, 8] (fun ov ki wr => ∃ (k : Nat) (ps : List PairL), k ≤ n ∧ ki = .int .i64 (k : Int) ∧ wr.ownsRow w.heap.size 32 3 ov k (ps.flatMap PairL.cells) ∧ ps.length = k ∧ GoodP ps ∧ IsM wr mm (chgs D ps) ∧ Maps.size (chgs D ps) ≤ Maps.size D + k ∧ Ch [mm] w wr) (fun _ ki _ => n - (intOf ki).toNat)
  case atStart => exact ⟨0, [], by omega, rfl, World.ownsRow_nil _ _ _ _, rfl, fun p hp => by simp at hp, hM, by simp [chgs], Ch.refl _ _⟩
  case round =>
    obtain ⟨k, ps, hk, rfl, hrow, hpl, hgp, hMA, hsA, hch⟩ := hrel
    obtain ⟨wA, hwA⟩ : ∃ W, W = wr := ⟨_, rfl⟩
    subst hwA
    have HPL := Lib.hid hpl
    have HGP := Lib.hid hgp
    clear hpl hgp
    by_cases hlt : k < n
    · obtain ⟨pb, po, rfl, c0, c1, c2⟩ := p5_cells hr k (by omega) hn
      have hne := hM.not_cell c0
      have d0 := hch.cell c0 (by simpa using hne)
      have d1 := hch.cell c1 (by simpa using hne)
      have d2 := hch.cell c2 (by simpa using hne)
      have hx := HOK.out _ (List.getElem_mem (l := l) (n := k) (by omega))
      generalize l[k]'(by omega) = x at *
      obtain ⟨xK, xN, xg⟩ := x
      obtain ⟨hx1, hx2⟩ := hx
      simp only at hx1 hx2 d0 d1 d2
      clear c0 c1 c2 hr
      obtain ⟨j, hj⟩ : ∃ j : Nat, (xK : Int) % 7 = (j : Int) := ⟨xK % 7, by omega⟩
      have hj7 : j < 7 := by omega
      have hky := fun W => key5_at (xK : Int) j hj7 hj (by omega) W
      obtain ⟨ik, hik0⟩ : ∃ ik : Nat, ik = i + k := ⟨_, rfl⟩
      have hvl := fun W => value5_any ik xN W (by omega) (by omega)
      have hik : (i : Int) + (k : Int) = (ik : Int) := by omega
      have hikw : IntKind.i64.wrap (ik : Int) = (ik : Int) := by rw [IntKind.wrap_i64]; omega
      have hxw : IntKind.i64.wrap (xN : Int) = (xN : Int) := by rw [IntKind.wrap_i64]; omega
      clear hik0
      have hkn : (k : Int) < (n : Int) := by omega
      have hN := keyN_le j
      clear hj
      go_wp2_with fail
      refine dr_begin (by kernel_rfl) ?_
      have hcw : Ch [] wA wA.drew := (Ch.refl _ _).drew
      generalize wA.drew = w0 at *
      refine dr_more (fun W => W.cell? ⟨pb, po + k * 3, none⟩ = some (.int .u8 (xK : Int)) ∧ W.cell? ⟨pb, po + k * 3 + 1, none⟩ = some (.int .u8 (xN : Int)) ∧ W.cell? ⟨pb, po + k * 3 + 2, none⟩ = some (.bool xg)) ?_
      have mkT : ∀ W, Ch [] wA W → True ∧ (W.cell? ⟨pb, po + k * 3, none⟩ = some (.int .u8 (xK : Int)) ∧ W.cell? ⟨pb, po + k * 3 + 1, none⟩ = some (.int .u8 (xN : Int)) ∧ W.cell? ⟨pb, po + k * 3 + 2, none⟩ = some (.bool xg)) := fun W hW => ⟨trivial, hW.cell d0 (by simp), hW.cell d1 (by simp), hW.cell d2 (by simp)⟩
      have MK := Lib.hid mkT
      clear mkT
      have hT := MK.out _ hcw
      refine dr_take 0 (some 16) (v := ?_) rfl rfl (by kernel_rfl) (by kernel_rfl) (by kernel_rfl) (fun _ _ _ h => h) rfl hT (fun W _ => ?_) ?_
      rotate_left
      · (go_simp; try with_reducible rfl)
      try simp only [Act.put, List.setIfInBounds_toArray, List.set_cons_zero, List.set_cons_succ]
      refine dr_take 1 (some 17) (v := ?_) rfl rfl (by kernel_rfl) (by kernel_rfl) (by kernel_rfl) (fun _ _ _ h => h) rfl hT (fun W _ => ?_) ?_
      rotate_left
      · (go_simp; try with_reducible rfl)
      try simp only [Act.put, List.setIfInBounds_toArray, List.set_cons_zero, List.set_cons_succ]
      refine dr_take 2 (some 18) (v := ?_) rfl rfl (by kernel_rfl) (by kernel_rfl) (by kernel_rfl) (fun _ _ _ h => h) rfl hT (fun W _ => ?_) ?_
      rotate_left
      · (go_simp; try with_reducible rfl)
      try simp only [Act.put, List.setIfInBounds_toArray, List.set_cons_zero, List.set_cons_succ]
      refine dr_take 3 (some 19) (v := ?_) rfl rfl (by kernel_rfl) (by kernel_rfl) (by kernel_rfl) (fun _ _ _ h => h) rfl hT (fun W _ => ?_) ?_
      rotate_left
      · (go_simp; try with_reducible rfl)
      try simp only [Act.put, List.setIfInBounds_toArray, List.set_cons_zero, List.set_cons_succ]
      refine dr_take 4 (some 20) (v := ?_) rfl rfl (by kernel_rfl) (by kernel_rfl) (by kernel_rfl) (fun _ _ _ h => h) rfl hT (fun W hW => ?_) ?_
      rotate_left
      · (have h1 := hW.2.1; go_simp; try with_reducible rfl)
      try simp only [Act.put, List.setIfInBounds_toArray, List.set_cons_zero, List.set_cons_succ]
      refine dr_take 6 (some 22) (v := ?_) rfl rfl (by kernel_rfl) (by kernel_rfl) (by kernel_rfl) (fun _ _ _ h => h) rfl hT (fun W _ => ?_) ?_
      rotate_left
      · (go_simp; try with_reducible rfl)
      try simp only [Act.put, List.setIfInBounds_toArray, List.set_cons_zero, List.set_cons_succ]
      refine dr_take 7 (some 23) (v := ?_) rfl rfl (by kernel_rfl) (by kernel_rfl) (by kernel_rfl) (fun _ _ _ h => h) rfl hT (fun W _ => ?_) ?_
      rotate_left
      · (go_simp; try with_reducible rfl)
      try simp only [Act.put, List.setIfInBounds_toArray, List.set_cons_zero, List.set_cons_succ]
      refine dr_take 8 (some 24) (v := ?_) rfl rfl (by kernel_rfl) (by kernel_rfl) (by kernel_rfl) (fun _ _ _ h => h) rfl hT (fun W _ => ?_) ?_
      rotate_left
      · (go_simp; try with_reducible rfl)
      try simp only [Act.put, List.setIfInBounds_toArray, List.set_cons_zero, List.set_cons_succ]
      refine dr_take 9 (some 25) (v := ?_) rfl rfl (by kernel_rfl) (by kernel_rfl) (by kernel_rfl) (fun _ _ _ h => h) rfl hT (fun W _ => ?_) ?_
      rotate_left
      · (go_simp; try with_reducible rfl)
      try simp only [Act.put, List.setIfInBounds_toArray, List.set_cons_zero, List.set_cons_succ]
      refine dr_take 10 (some 26) (v := ?_) rfl rfl (by kernel_rfl) (by kernel_rfl) (by kernel_rfl) (fun _ _ _ h => h) rfl hT (fun W _ => ?_) ?_
      rotate_left
      · (go_simp; try with_reducible rfl)
      try simp only [Act.put, List.setIfInBounds_toArray, List.set_cons_zero, List.set_cons_succ]
      refine dr_take 11 (some 27) (v := ?_) rfl rfl (by kernel_rfl) (by kernel_rfl) (by kernel_rfl) (fun _ _ _ h => h) rfl hT (fun W _ => ?_) ?_
      rotate_left
      · (go_simp; try with_reducible rfl)
      try simp only [Act.put, List.setIfInBounds_toArray, List.set_cons_zero, List.set_cons_succ]
      refine dr_take 12 (some 28) (v := ?_) rfl rfl (by kernel_rfl) (by kernel_rfl) (by kernel_rfl) (fun _ _ _ h => h) rfl hT (fun W _ => ?_) ?_
      rotate_left
      · (go_simp; try with_reducible rfl)
      try simp only [Act.put, List.setIfInBounds_toArray, List.set_cons_zero, List.set_cons_succ]
      refine dr_take 13 (some 29) (v := ?_) rfl rfl (by kernel_rfl) (by kernel_rfl) (by kernel_rfl) (fun _ _ _ h => h) rfl hT (fun W hW => ?_) ?_
      rotate_left
      · (have h1 := hW.2.2.1; go_simp; try with_reducible rfl)
      try simp only [Act.put, List.setIfInBounds_toArray, List.set_cons_zero, List.set_cons_succ]
      refine dr_take 14 (some 30) (v := ?_) rfl rfl (by kernel_rfl) (by kernel_rfl) (by kernel_rfl) (fun _ _ _ h => h) rfl hT (fun W _ => ?_) ?_
      rotate_left
      · (go_simp; try with_reducible rfl)
      try simp only [Act.put, List.setIfInBounds_toArray, List.set_cons_zero, List.set_cons_succ]
      refine dr_take 16 (some 32) (v := ?_) rfl rfl (by kernel_rfl) (by kernel_rfl) (by kernel_rfl) (fun _ _ _ h => h) rfl hT (fun W _ => ?_) ?_
      rotate_left
      · (go_simp; try with_reducible rfl)
      try simp only [Act.put, List.setIfInBounds_toArray, List.set_cons_zero, List.set_cons_succ]
      refine dr_take 17 (some 33) (v := ?_) rfl rfl (by kernel_rfl) (by kernel_rfl) (by kernel_rfl) (fun _ _ _ h => h) rfl hT (fun W _ => ?_) ?_
      rotate_left
      · (go_simp; try with_reducible rfl)
      try simp only [Act.put, List.setIfInBounds_toArray, List.set_cons_zero, List.set_cons_succ]
      refine dr_take 18 (some 34) (v := ?_) rfl rfl (by kernel_rfl) (by kernel_rfl) (by kernel_rfl) (fun _ _ _ h => h) rfl hT (fun W _ => ?_) ?_
      rotate_left
      · (go_simp; try with_reducible rfl)
      try simp only [Act.put, List.setIfInBounds_toArray, List.set_cons_zero, List.set_cons_succ]
      refine dr_take 19 (some 35) (v := ?_) rfl rfl (by kernel_rfl) (by kernel_rfl) (by kernel_rfl) (fun _ _ _ h => h) rfl hT (fun W _ => ?_) ?_
      rotate_left
      · (go_simp; try with_reducible rfl)
      try simp only [Act.put, List.setIfInBounds_toArray, List.set_cons_zero, List.set_cons_succ]
      refine dr_take 20 (some 36) (v := ?_) rfl rfl (by kernel_rfl) (by kernel_rfl) (by kernel_rfl) (fun _ _ _ h => h) rfl hT (fun W hW => ?_) ?_
      rotate_left
      · (have h1 := hW.2.2.2; go_simp; try with_reducible rfl)
      try simp only [Act.put, List.setIfInBounds_toArray, List.set_cons_zero, List.set_cons_succ]
      refine dr_step2 5 22 rfl rfl (by kernel_rfl) rfl rfl (fun K hK => ?_) (fun K hK => ?_)
      · go_simp
        refine (hky _).mono ?_
        rintro e w2 ⟨rfl, hc2⟩
        have hcw := hcw.trans hc2 (by simp)
        try have hyb := hc2.at_ hyb (by simp)
        refine hK.out _ _ (MK.out _ hcw) ?_
        have hT := MK.out _ hcw
        clear hK K
        try simp only [Act.put, List.setIfInBounds_toArray, List.set_cons_zero, List.set_cons_succ]
        refine dr_step2 15 22 rfl rfl (by kernel_rfl) rfl rfl (fun K hK => ?_) (fun K hK => ?_)
        · go_simp
          refine (hvl _).mono ?_
          rintro e w3 ⟨vv, hvv, rfl, hc3⟩
          have hcw := hcw.trans hc3 (by simp)
          try have hyb := hc3.at_ hyb (by simp)
          refine hK.out _ _ (MK.out _ hcw) ?_
          have hT := MK.out _ hcw
          clear hK K
          try simp only [Act.put, List.setIfInBounds_toArray, List.set_cons_zero, List.set_cons_succ]
          refine dr_take 21 (some 37) (v := ?_) rfl rfl (by kernel_rfl) (by kernel_rfl) (by kernel_rfl) (fun _ _ _ h => h) rfl hT (fun W _ => ?_) ?_
          rotate_left
          · (go_simp; try with_reducible rfl)
          try simp only [Act.put, List.setIfInBounds_toArray, List.set_cons_zero, List.set_cons_succ]
          refine dr_step 22 rfl (by kernel_rfl) rfl (fun K hK => ?_)
          go_simp
          obtain ⟨y, wy, ey1, ey2, hyb, hcw, hyl⟩ := alloc_facts hcw #[.string ⟨#[]⟩, .string ⟨#[]⟩, .bool false] 32
          rw [ey1, ey2]
          clear ey1 ey2
          refine hK.out _ _ (MK.out _ hcw) ?_
          have hT := MK.out _ hcw
          clear hK K
          try simp only [Act.put, List.setIfInBounds_toArray, List.set_cons_zero, List.set_cons_succ]
          refine dr_step 23 rfl (by kernel_rfl) rfl (fun K hK => ?_)
          go_simp
          have q0 := free_at hyb 0
          have q1 := free_at hyb 1
          have q2 := free_at hyb 2
          have p0 := cell_at hyb 0 rfl
          have p1 := cell_at hyb 1 rfl
          have p2 := cell_at hyb 2 rfl
          go_simp
          obtain ⟨wz, ez, hyb, hcw⟩ := store3 hyb hcw hyl (.string (str (keyN j))) (.string (str vv)) (.bool xg)
          rw [ez]
          clear ez q0 q1 q2 p0 p1 p2
          refine hK.out _ _ (MK.out _ hcw) ?_
          have hT := MK.out _ hcw
          clear hK K
          try simp only [Act.put, List.setIfInBounds_toArray, List.set_cons_zero, List.set_cons_succ]
          refine dr_done (by kernel_rfl) ?_
          clear hT MK hky hvl d0 d1 d2
          have hrowZ := own_keep hrow hcw (by simp)
          have hsZ := hcw.size
          have hgo : (⟨keyN j, vv, xg⟩ : PairL).ok := ⟨by show (keyN j).length ≤ 1000; omega, by show vv.length ≤ 1000; omega⟩
          have hs1 := hMA.size_chg ⟨keyN j, vv, xg⟩
          have hcX : Ch [] wz (wz.alloc (.cells #[.string (str (keyN j)), .string (str vv), .bool xg] 32)) := (Ch.refl [] wz).alloc _
          have hbX := heap_alloc_new wz (.cells #[.string (str (keyN j)), .string (str vv), .bool xg] 32)
          have hrdX := pairs_one (p := ⟨keyN j, vv, xg⟩) hbX
          have hcAX := hcw.trans hcX (by simp)
          have hcwX : Ch [mm] w (wz.alloc (.cells #[.string (str (keyN j)), .string (str vv), .bool xg] 32)) := (hch.trans hcAX (by simp))
          have hrowX := own_keep hrowZ hcX (by simp)
          have hsX := hcwX.size
          obtain ⟨Ao, co, rfl⟩ := own_slice hrow
          have hmm : mm ∉ (Value.slice Ao k co).ownBlock.toList := by
            intro hm
            rw [Option.mem_toList] at hm
            have := own_ge hrow mm hm
            omega
          have hyy : y ∉ (Value.slice Ao k co).ownBlock.toList := by
            intro hm
            rw [Option.mem_toList] at hm
            have := own_lt hrow y hm
            omega
          have p0 := cell_at hyb 0 rfl
          have p1 := cell_at hyb 1 rfl
          have p2 := cell_at hyb 2 rfl
          have HMM := Lib.hid hmm
          have HYY := Lib.hid hyy
          have HGO := Lib.hid hgo
          have hkl : (keyN j).length ≤ 1000000 := by omega
          clear hrow hrowZ hmm hyy hgo hbX
          rcases xg with _ | _
          · skip
            go_wp2_with (first
              | (at_builtin; refine app_rd rfl (.tmp 38) (.tmp 40) 30 32 _ 3 40 (by omega) rfl Tryz.underlying30 Tryz.info32 rfl (.slice Ao k co) k (ps.flatMap PairL.cells) ([⟨keyN j, vv, false⟩].flatMap PairL.cells) (some ⟨wz.heap.size, 0, none⟩) 1 1 rfl rfl (pcells_one _) hrowX hrdX hsX (by omega) (by unfold maxLen; omega) ?_; intro v8 w8 h8 hgr8 hat8; have hc8 : Ch [mm] w w8 := hcwX.grown hgr8 (fun q hq => .inr (own_ge hrowX q hq)); have hcg : Ch (Value.slice Ao k co).ownBlock.toList wA w8 := (hcAX.mono (by simp)).grown hgr8 (fun q hq => .inl (by simp [hq])); have hM8 := hMA.keep hcg HMM.out; have hb8 : w8.heap[y]? = some (.cells #[.string (str (keyN j)), .string (str vv), .bool false] 32 (0, 0)) := ((Ch.refl _ _).grown hgr8 (fun q hq => .inl (by simp [hq])) : Ch (Value.slice Ao k co).ownBlock.toList _ w8).at_ (hcX.at_ hyb (by simp)) HYY.out; have f0 := cell_at hb8 0 rfl; have f1 := cell_at hb8 1 rfl; have f2 := cell_at hb8 2 rfl; obtain ⟨w9, hrun, hM9, hc9⟩ := hM8.store (keyN j) vv hkl (by omega) (by omega))
              | fail)
            have hch9 := hc8.trans hc9 (by simp)
            have hrow9 := own_keep h8 hc9 (fun q hq hm => by have := own_ge h8 q hq; simp only [List.mem_singleton] at hm; omega)
            rw [← List.flatMap_append] at hrow9
            refine ⟨⟨k + 1, ps ++ [⟨keyN j, vv, false⟩], by omega, by go_num, hrow9, by rw [List.length_append, HPL.out]; rfl, ?_, by rw [chgs_snoc]; exact hM9, by rw [chgs_snoc]; omega, hch9⟩, ?_⟩
            · intro p hp
              rcases List.mem_append.1 hp with hp | hp
              · exact HGP.out p hp
              · rw [List.mem_singleton] at hp
                subst hp
                exact ⟨HGO.out, hN, by show vv.length ≤ 255; omega, j, hj7, rfl⟩
            · simp [intOf]
              omega
          · skip
            go_wp2_with (first
              | (at_builtin; refine app_rd rfl (.tmp 38) (.tmp 40) 30 32 _ 3 40 (by omega) rfl Tryz.underlying30 Tryz.info32 rfl (.slice Ao k co) k (ps.flatMap PairL.cells) ([⟨keyN j, vv, true⟩].flatMap PairL.cells) (some ⟨wz.heap.size, 0, none⟩) 1 1 rfl rfl (pcells_one _) hrowX hrdX hsX (by omega) (by unfold maxLen; omega) ?_; intro v8 w8 h8 hgr8 hat8; have hc8 : Ch [mm] w w8 := hcwX.grown hgr8 (fun q hq => .inr (own_ge hrowX q hq)); have hcg : Ch (Value.slice Ao k co).ownBlock.toList wA w8 := (hcAX.mono (by simp)).grown hgr8 (fun q hq => .inl (by simp [hq])); have hM8 := hMA.keep hcg HMM.out; have hb8 : w8.heap[y]? = some (.cells #[.string (str (keyN j)), .string (str vv), .bool true] 32 (0, 0)) := ((Ch.refl _ _).grown hgr8 (fun q hq => .inl (by simp [hq])) : Ch (Value.slice Ao k co).ownBlock.toList _ w8).at_ (hcX.at_ hyb (by simp)) HYY.out; have f0 := cell_at hb8 0 rfl; have f1 := cell_at hb8 1 rfl; have f2 := cell_at hb8 2 rfl; obtain ⟨w9, hrun, hM9, hc9⟩ := hM8.drop (keyN j) hkl 0)
              | fail)
            have hch9 := hc8.trans hc9 (by simp)
            have hrow9 := own_keep h8 hc9 (fun q hq hm => by have := own_ge h8 q hq; simp only [List.mem_singleton] at hm; omega)
            rw [← List.flatMap_append] at hrow9
            refine ⟨⟨k + 1, ps ++ [⟨keyN j, vv, true⟩], by omega, by go_num, hrow9, by rw [List.length_append, HPL.out]; rfl, ?_, by rw [chgs_snoc]; exact hM9, by rw [chgs_snoc]; omega, hch9⟩, ?_⟩
            · intro p hp
              rcases List.mem_append.1 hp with hp | hp
              · exact HGP.out p hp
              · rw [List.mem_singleton] at hp
                subst hp
                exact ⟨HGO.out, hN, by show vv.length ≤ 255; omega, j, hj7, rfl⟩
            · simp [intOf]
              omega
        · go_simp
          obtain ⟨y, wy, ey1, ey2, hyb, hcw, hyl⟩ := alloc_facts hcw #[.string ⟨#[]⟩, .string ⟨#[]⟩, .bool false] 32
          rw [ey1, ey2]
          clear ey1 ey2
          refine hK.out _ _ (MK.out _ hcw) ?_
          have hT := MK.out _ hcw
          clear hK K
          try simp only [Act.put, List.setIfInBounds_toArray, List.set_cons_zero, List.set_cons_succ]
          refine dr_step 15 rfl (by kernel_rfl) rfl (fun K hK => ?_)
          go_simp
          refine (hvl _).mono ?_
          rintro e w3 ⟨vv, hvv, rfl, hc3⟩
          have hcw := hcw.trans hc3 (by simp)
          try have hyb := hc3.at_ hyb (by simp)
          refine hK.out _ _ (MK.out _ hcw) ?_
          have hT := MK.out _ hcw
          clear hK K
          try simp only [Act.put, List.setIfInBounds_toArray, List.set_cons_zero, List.set_cons_succ]
          refine dr_take 21 (some 37) (v := ?_) rfl rfl (by kernel_rfl) (by kernel_rfl) (by kernel_rfl) (fun _ _ _ h => h) rfl hT (fun W _ => ?_) ?_
          rotate_left
          · (go_simp; try with_reducible rfl)
          try simp only [Act.put, List.setIfInBounds_toArray, List.set_cons_zero, List.set_cons_succ]
          refine dr_step 23 rfl (by kernel_rfl) rfl (fun K hK => ?_)
          go_simp
          have q0 := free_at hyb 0
          have q1 := free_at hyb 1
          have q2 := free_at hyb 2
          have p0 := cell_at hyb 0 rfl
          have p1 := cell_at hyb 1 rfl
          have p2 := cell_at hyb 2 rfl
          go_simp
          obtain ⟨wz, ez, hyb, hcw⟩ := store3 hyb hcw hyl (.string (str (keyN j))) (.string (str vv)) (.bool xg)
          rw [ez]
          clear ez q0 q1 q2 p0 p1 p2
          refine hK.out _ _ (MK.out _ hcw) ?_
          have hT := MK.out _ hcw
          clear hK K
          try simp only [Act.put, List.setIfInBounds_toArray, List.set_cons_zero, List.set_cons_succ]
          refine dr_done (by kernel_rfl) ?_
          clear hT MK hky hvl d0 d1 d2
          have hrowZ := own_keep hrow hcw (by simp)
          have hsZ := hcw.size
          have hgo : (⟨keyN j, vv, xg⟩ : PairL).ok := ⟨by show (keyN j).length ≤ 1000; omega, by show vv.length ≤ 1000; omega⟩
          have hs1 := hMA.size_chg ⟨keyN j, vv, xg⟩
          have hcX : Ch [] wz (wz.alloc (.cells #[.string (str (keyN j)), .string (str vv), .bool xg] 32)) := (Ch.refl [] wz).alloc _
          have hbX := heap_alloc_new wz (.cells #[.string (str (keyN j)), .string (str vv), .bool xg] 32)
          have hrdX := pairs_one (p := ⟨keyN j, vv, xg⟩) hbX
          have hcAX := hcw.trans hcX (by simp)
          have hcwX : Ch [mm] w (wz.alloc (.cells #[.string (str (keyN j)), .string (str vv), .bool xg] 32)) := (hch.trans hcAX (by simp))
          have hrowX := own_keep hrowZ hcX (by simp)
          have hsX := hcwX.size
          obtain ⟨Ao, co, rfl⟩ := own_slice hrow
          have hmm : mm ∉ (Value.slice Ao k co).ownBlock.toList := by
            intro hm
            rw [Option.mem_toList] at hm
            have := own_ge hrow mm hm
            omega
          have hyy : y ∉ (Value.slice Ao k co).ownBlock.toList := by
            intro hm
            rw [Option.mem_toList] at hm
            have := own_lt hrow y hm
            omega
          have p0 := cell_at hyb 0 rfl
          have p1 := cell_at hyb 1 rfl
          have p2 := cell_at hyb 2 rfl
          have HMM := Lib.hid hmm
          have HYY := Lib.hid hyy
          have HGO := Lib.hid hgo
          have hkl : (keyN j).length ≤ 1000000 := by omega
          clear hrow hrowZ hmm hyy hgo hbX
          rcases xg with _ | _
          · skip
            go_wp2_with (first
              | (at_builtin; refine app_rd rfl (.tmp 38) (.tmp 40) 30 32 _ 3 40 (by omega) rfl Tryz.underlying30 Tryz.info32 rfl (.slice Ao k co) k (ps.flatMap PairL.cells) ([⟨keyN j, vv, false⟩].flatMap PairL.cells) (some ⟨wz.heap.size, 0, none⟩) 1 1 rfl rfl (pcells_one _) hrowX hrdX hsX (by omega) (by unfold maxLen; omega) ?_; intro v8 w8 h8 hgr8 hat8; have hc8 : Ch [mm] w w8 := hcwX.grown hgr8 (fun q hq => .inr (own_ge hrowX q hq)); have hcg : Ch (Value.slice Ao k co).ownBlock.toList wA w8 := (hcAX.mono (by simp)).grown hgr8 (fun q hq => .inl (by simp [hq])); have hM8 := hMA.keep hcg HMM.out; have hb8 : w8.heap[y]? = some (.cells #[.string (str (keyN j)), .string (str vv), .bool false] 32 (0, 0)) := ((Ch.refl _ _).grown hgr8 (fun q hq => .inl (by simp [hq])) : Ch (Value.slice Ao k co).ownBlock.toList _ w8).at_ (hcX.at_ hyb (by simp)) HYY.out; have f0 := cell_at hb8 0 rfl; have f1 := cell_at hb8 1 rfl; have f2 := cell_at hb8 2 rfl; obtain ⟨w9, hrun, hM9, hc9⟩ := hM8.store (keyN j) vv hkl (by omega) (by omega))
              | fail)
            have hch9 := hc8.trans hc9 (by simp)
            have hrow9 := own_keep h8 hc9 (fun q hq hm => by have := own_ge h8 q hq; simp only [List.mem_singleton] at hm; omega)
            rw [← List.flatMap_append] at hrow9
            refine ⟨⟨k + 1, ps ++ [⟨keyN j, vv, false⟩], by omega, by go_num, hrow9, by rw [List.length_append, HPL.out]; rfl, ?_, by rw [chgs_snoc]; exact hM9, by rw [chgs_snoc]; omega, hch9⟩, ?_⟩
            · intro p hp
              rcases List.mem_append.1 hp with hp | hp
              · exact HGP.out p hp
              · rw [List.mem_singleton] at hp
                subst hp
                exact ⟨HGO.out, hN, by show vv.length ≤ 255; omega, j, hj7, rfl⟩
            · simp [intOf]
              omega
          · skip
            go_wp2_with (first
              | (at_builtin; refine app_rd rfl (.tmp 38) (.tmp 40) 30 32 _ 3 40 (by omega) rfl Tryz.underlying30 Tryz.info32 rfl (.slice Ao k co) k (ps.flatMap PairL.cells) ([⟨keyN j, vv, true⟩].flatMap PairL.cells) (some ⟨wz.heap.size, 0, none⟩) 1 1 rfl rfl (pcells_one _) hrowX hrdX hsX (by omega) (by unfold maxLen; omega) ?_; intro v8 w8 h8 hgr8 hat8; have hc8 : Ch [mm] w w8 := hcwX.grown hgr8 (fun q hq => .inr (own_ge hrowX q hq)); have hcg : Ch (Value.slice Ao k co).ownBlock.toList wA w8 := (hcAX.mono (by simp)).grown hgr8 (fun q hq => .inl (by simp [hq])); have hM8 := hMA.keep hcg HMM.out; have hb8 : w8.heap[y]? = some (.cells #[.string (str (keyN j)), .string (str vv), .bool true] 32 (0, 0)) := ((Ch.refl _ _).grown hgr8 (fun q hq => .inl (by simp [hq])) : Ch (Value.slice Ao k co).ownBlock.toList _ w8).at_ (hcX.at_ hyb (by simp)) HYY.out; have f0 := cell_at hb8 0 rfl; have f1 := cell_at hb8 1 rfl; have f2 := cell_at hb8 2 rfl; obtain ⟨w9, hrun, hM9, hc9⟩ := hM8.drop (keyN j) hkl 0)
              | fail)
            have hch9 := hc8.trans hc9 (by simp)
            have hrow9 := own_keep h8 hc9 (fun q hq hm => by have := own_ge h8 q hq; simp only [List.mem_singleton] at hm; omega)
            rw [← List.flatMap_append] at hrow9
            refine ⟨⟨k + 1, ps ++ [⟨keyN j, vv, true⟩], by omega, by go_num, hrow9, by rw [List.length_append, HPL.out]; rfl, ?_, by rw [chgs_snoc]; exact hM9, by rw [chgs_snoc]; omega, hch9⟩, ?_⟩
            · intro p hp
              rcases List.mem_append.1 hp with hp | hp
              · exact HGP.out p hp
              · rw [List.mem_singleton] at hp
                subst hp
                exact ⟨HGO.out, hN, by show vv.length ≤ 255; omega, j, hj7, rfl⟩
            · simp [intOf]
              omega
      · go_simp
        obtain ⟨y, wy, ey1, ey2, hyb, hcw, hyl⟩ := alloc_facts hcw #[.string ⟨#[]⟩, .string ⟨#[]⟩, .bool false] 32
        rw [ey1, ey2]
        clear ey1 ey2
        refine hK.out _ _ (MK.out _ hcw) ?_
        have hT := MK.out _ hcw
        clear hK K
        try simp only [Act.put, List.setIfInBounds_toArray, List.set_cons_zero, List.set_cons_succ]
        refine dr_step 5 rfl (by kernel_rfl) rfl (fun K hK => ?_)
        go_simp
        refine (hky _).mono ?_
        rintro e w2 ⟨rfl, hc2⟩
        have hcw := hcw.trans hc2 (by simp)
        try have hyb := hc2.at_ hyb (by simp)
        refine hK.out _ _ (MK.out _ hcw) ?_
        have hT := MK.out _ hcw
        clear hK K
        try simp only [Act.put, List.setIfInBounds_toArray, List.set_cons_zero, List.set_cons_succ]
        refine dr_step 15 rfl (by kernel_rfl) rfl (fun K hK => ?_)
        go_simp
        refine (hvl _).mono ?_
        rintro e w3 ⟨vv, hvv, rfl, hc3⟩
        have hcw := hcw.trans hc3 (by simp)
        try have hyb := hc3.at_ hyb (by simp)
        refine hK.out _ _ (MK.out _ hcw) ?_
        have hT := MK.out _ hcw
        clear hK K
        try simp only [Act.put, List.setIfInBounds_toArray, List.set_cons_zero, List.set_cons_succ]
        refine dr_take 21 (some 37) (v := ?_) rfl rfl (by kernel_rfl) (by kernel_rfl) (by kernel_rfl) (fun _ _ _ h => h) rfl hT (fun W _ => ?_) ?_
        rotate_left
        · (go_simp; try with_reducible rfl)
        try simp only [Act.put, List.setIfInBounds_toArray, List.set_cons_zero, List.set_cons_succ]
        refine dr_step 23 rfl (by kernel_rfl) rfl (fun K hK => ?_)
        go_simp
        have q0 := free_at hyb 0
        have q1 := free_at hyb 1
        have q2 := free_at hyb 2
        have p0 := cell_at hyb 0 rfl
        have p1 := cell_at hyb 1 rfl
        have p2 := cell_at hyb 2 rfl
        go_simp
        obtain ⟨wz, ez, hyb, hcw⟩ := store3 hyb hcw hyl (.string (str (keyN j))) (.string (str vv)) (.bool xg)
        rw [ez]
        clear ez q0 q1 q2 p0 p1 p2
        refine hK.out _ _ (MK.out _ hcw) ?_
        have hT := MK.out _ hcw
        clear hK K
        try simp only [Act.put, List.setIfInBounds_toArray, List.set_cons_zero, List.set_cons_succ]
        refine dr_done (by kernel_rfl) ?_
        clear hT MK hky hvl d0 d1 d2
        have hrowZ := own_keep hrow hcw (by simp)
        have hsZ := hcw.size
        have hgo : (⟨keyN j, vv, xg⟩ : PairL).ok := ⟨by show (keyN j).length ≤ 1000; omega, by show vv.length ≤ 1000; omega⟩
        have hs1 := hMA.size_chg ⟨keyN j, vv, xg⟩
        have hcX : Ch [] wz (wz.alloc (.cells #[.string (str (keyN j)), .string (str vv), .bool xg] 32)) := (Ch.refl [] wz).alloc _
        have hbX := heap_alloc_new wz (.cells #[.string (str (keyN j)), .string (str vv), .bool xg] 32)
        have hrdX := pairs_one (p := ⟨keyN j, vv, xg⟩) hbX
        have hcAX := hcw.trans hcX (by simp)
        have hcwX : Ch [mm] w (wz.alloc (.cells #[.string (str (keyN j)), .string (str vv), .bool xg] 32)) := (hch.trans hcAX (by simp))
        have hrowX := own_keep hrowZ hcX (by simp)
        have hsX := hcwX.size
        obtain ⟨Ao, co, rfl⟩ := own_slice hrow
        have hmm : mm ∉ (Value.slice Ao k co).ownBlock.toList := by
          intro hm
          rw [Option.mem_toList] at hm
          have := own_ge hrow mm hm
          omega
        have hyy : y ∉ (Value.slice Ao k co).ownBlock.toList := by
          intro hm
          rw [Option.mem_toList] at hm
          have := own_lt hrow y hm
          omega
        have p0 := cell_at hyb 0 rfl
        have p1 := cell_at hyb 1 rfl
        have p2 := cell_at hyb 2 rfl
        have HMM := Lib.hid hmm
        have HYY := Lib.hid hyy
        have HGO := Lib.hid hgo
        have hkl : (keyN j).length ≤ 1000000 := by omega
        clear hrow hrowZ hmm hyy hgo hbX
        rcases xg with _ | _
        · skip
          go_wp2_with (first
            | (at_builtin; refine app_rd rfl (.tmp 38) (.tmp 40) 30 32 _ 3 40 (by omega) rfl Tryz.underlying30 Tryz.info32 rfl (.slice Ao k co) k (ps.flatMap PairL.cells) ([⟨keyN j, vv, false⟩].flatMap PairL.cells) (some ⟨wz.heap.size, 0, none⟩) 1 1 rfl rfl (pcells_one _) hrowX hrdX hsX (by omega) (by unfold maxLen; omega) ?_; intro v8 w8 h8 hgr8 hat8; have hc8 : Ch [mm] w w8 := hcwX.grown hgr8 (fun q hq => .inr (own_ge hrowX q hq)); have hcg : Ch (Value.slice Ao k co).ownBlock.toList wA w8 := (hcAX.mono (by simp)).grown hgr8 (fun q hq => .inl (by simp [hq])); have hM8 := hMA.keep hcg HMM.out; have hb8 : w8.heap[y]? = some (.cells #[.string (str (keyN j)), .string (str vv), .bool false] 32 (0, 0)) := ((Ch.refl _ _).grown hgr8 (fun q hq => .inl (by simp [hq])) : Ch (Value.slice Ao k co).ownBlock.toList _ w8).at_ (hcX.at_ hyb (by simp)) HYY.out; have f0 := cell_at hb8 0 rfl; have f1 := cell_at hb8 1 rfl; have f2 := cell_at hb8 2 rfl; obtain ⟨w9, hrun, hM9, hc9⟩ := hM8.store (keyN j) vv hkl (by omega) (by omega))
            | fail)
          have hch9 := hc8.trans hc9 (by simp)
          have hrow9 := own_keep h8 hc9 (fun q hq hm => by have := own_ge h8 q hq; simp only [List.mem_singleton] at hm; omega)
          rw [← List.flatMap_append] at hrow9
          refine ⟨⟨k + 1, ps ++ [⟨keyN j, vv, false⟩], by omega, by go_num, hrow9, by rw [List.length_append, HPL.out]; rfl, ?_, by rw [chgs_snoc]; exact hM9, by rw [chgs_snoc]; omega, hch9⟩, ?_⟩
          · intro p hp
            rcases List.mem_append.1 hp with hp | hp
            · exact HGP.out p hp
            · rw [List.mem_singleton] at hp
              subst hp
              exact ⟨HGO.out, hN, by show vv.length ≤ 255; omega, j, hj7, rfl⟩
          · simp [intOf]
            omega
        · skip
          go_wp2_with (first
            | (at_builtin; refine app_rd rfl (.tmp 38) (.tmp 40) 30 32 _ 3 40 (by omega) rfl Tryz.underlying30 Tryz.info32 rfl (.slice Ao k co) k (ps.flatMap PairL.cells) ([⟨keyN j, vv, true⟩].flatMap PairL.cells) (some ⟨wz.heap.size, 0, none⟩) 1 1 rfl rfl (pcells_one _) hrowX hrdX hsX (by omega) (by unfold maxLen; omega) ?_; intro v8 w8 h8 hgr8 hat8; have hc8 : Ch [mm] w w8 := hcwX.grown hgr8 (fun q hq => .inr (own_ge hrowX q hq)); have hcg : Ch (Value.slice Ao k co).ownBlock.toList wA w8 := (hcAX.mono (by simp)).grown hgr8 (fun q hq => .inl (by simp [hq])); have hM8 := hMA.keep hcg HMM.out; have hb8 : w8.heap[y]? = some (.cells #[.string (str (keyN j)), .string (str vv), .bool true] 32 (0, 0)) := ((Ch.refl _ _).grown hgr8 (fun q hq => .inl (by simp [hq])) : Ch (Value.slice Ao k co).ownBlock.toList _ w8).at_ (hcX.at_ hyb (by simp)) HYY.out; have f0 := cell_at hb8 0 rfl; have f1 := cell_at hb8 1 rfl; have f2 := cell_at hb8 2 rfl; obtain ⟨w9, hrun, hM9, hc9⟩ := hM8.drop (keyN j) hkl 0)
            | fail)
          have hch9 := hc8.trans hc9 (by simp)
          have hrow9 := own_keep h8 hc9 (fun q hq hm => by have := own_ge h8 q hq; simp only [List.mem_singleton] at hm; omega)
          rw [← List.flatMap_append] at hrow9
          refine ⟨⟨k + 1, ps ++ [⟨keyN j, vv, true⟩], by omega, by go_num, hrow9, by rw [List.length_append, HPL.out]; rfl, ?_, by rw [chgs_snoc]; exact hM9, by rw [chgs_snoc]; omega, hch9⟩, ?_⟩
          · intro p hp
            rcases List.mem_append.1 hp with hp | hp
            · exact HGP.out p hp
            · rw [List.mem_singleton] at hp
              subst hp
              exact ⟨HGO.out, hN, by show vv.length ≤ 255; omega, j, hj7, rfl⟩
          · simp [intOf]
            omega
    · obtain rfl : k = n := by omega
      clear hlt hk
      obtain ⟨Ao, co, rfl⟩ := own_slice hrow
      go_wp2_with fail
      go_ret
      exact ⟨_, ps, rfl, hrow, HPL.out, HGP.out, hMA, hch⟩

end Go.Proofs.YtbkncfedahifkaaGreat
