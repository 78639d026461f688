/-
  Package disk: New.
-/
import Derived.Test.YtbkncfedahifkaaDCrash2
set_option linter.unusedVariables false
set_option linter.unusedSimpArgs false
namespace Go.Proofs.Ytbkncfedahifkaa
open Go.RowKit Go.Maps Go.MapKept Go.ChangeMaps

theorem Try.info28 : (Try.prog.info? 28).map (fun i => (i.zero, i.size, i.bytes)) = some (some (.slice none 0 0), 1, 24) := by kernel_rfl

/-- append, within a region: its run is known. -/
theorem app_wp {P : Program} {o : Oper} {a : Act} {K : Act → World → Prop} {Q : Exit → Act → World → Prop} {W w1 : World} (s x : Operand) (t u : TypeId) (v v1 y : Value) (ho : o.op = .call { callee := .builtin .append, args := #[s, x], argTypes := #[t, u] })
    (hs : a.eval s = v) (hx : a.eval x = y) (hr : (Builtin.append_ #[t, u] o.type #[v, y]).run P W = .ok v1 w1) (h : K (a.put o.dst v1) w1) : o.wp P a W K Q := by
  unfold Oper.wp execOp
  simp only [ho, resolve, invoke, builtin, Sem.run_bind, Sem.run_pure, Result.andThen_ok, List.map_toArray, List.map_cons, List.map_nil, hs, hx, hr]
  exact h

/-- A disk of noughts. -/
def Dsk.new (n sz : Nat) : Dsk := { sz := sz, sure := List.replicate n (List.replicate sz 0), dirty := fun _ => none, cut := -1, dead := false }

theorem make_bytes (n : Nat) (w : World) (hn : n ≤ 281474976710656) :
    ∃ w', (Instr.makeSlice 28 (.int .i64 (n : Int)) (.int .i64 (n : Int))).run Try.prog w = .ok (.slice (some ⟨w.heap.size, 0, none⟩) n n) w' ∧ w'.ownsRow w.heap.size 5 1 (.slice (some ⟨w.heap.size, 0, none⟩) n n) n (bvs (List.replicate n 0)) ∧ Ch [] w w' := by
  obtain ⟨i0, hi, hzz⟩ := Option.map_eq_some_iff.1 Try.info5
  simp only [Prod.mk.injEq] at hzz
  obtain ⟨hz0, hz1, hz2⟩ := hzz
  obtain ⟨w', h1, h2, h3⟩ := run_make_full (P := Try.prog) w w.heap.size 28 5 i0 _ 1 Try.underlying28 hi hz0 hz1 .i64 .i64 n (by rw [hz2]; omega) (by unfold maxLen; omega) (Nat.le_refl _)
  refine ⟨w', h1, ?_, (Ch.refl _ _).grown h3 (by simp)⟩
  have e : (madeCells (Value.int .u8 0).cells (n * 1)).toList = bvs (List.replicate n 0) := by
    rw [Nat.mul_one, show (Value.int IntKind.u8 0).cells = #[.int .u8 0] from rfl, toList_madeCells_one]
    simp [bvs, bv]
  rw [e] at h2
  exact h2

/-- A disk that is under way: k sectors so far. -/
structure NewAt (w : World) (base b m : Nat) (X : List Nat) (sz k : Nat) (v : Value) (vs : List Value) : Prop where
  cells : w.heap[b]? = some (.cells #[v, .map (some m), .int .i64 (-1), .bool false] 69 (0, 0))
  row : w.ownsRow base 28 1 v k vs
  map : w.heap[m]? = some (.map #[] 0)
  secs : ∀ i, i < k → ∃ u, vs[i]? = some u ∧ SecV w (b :: m :: (v.ownBlock.toList ++ X)) sz u (List.replicate sz 0)

theorem NewAt.disk {w : World} {base b m sz n : Nat} {X : List Nat} {v : Value} {vs : List Value} (h : NewAt w base b m X sz n v vs) (hz0 : 64 ≤ sz) (hz1 : sz ≤ 4096) (hn0 : 1 ≤ n) (hn1 : n ≤ 4096) (hX : ∀ x ∈ X, x < base) (hb : base ≤ b) (hm : base ≤ m) (hbm : b ≠ m) :
    ∃ g, base ≤ g ∧ IsDisk w b g m X (Dsk.new n sz) := by
  obtain ⟨A, c, rfl⟩ := own_slice h.row
  obtain ⟨b', o', rfl, hcell⟩ := (own_rd h.row).cells (by omega)
  obtain rfl : o' = 0 := by
    rcases h.row.2 with ⟨e, _⟩ | ⟨g', cap, cur, e, _⟩
    · cases e
    · simp only [Value.slice.injEq, Option.some.injEq, Addr.mk.injEq] at e
      exact e.1.2.1
  have hbb : base ≤ b' := own_ge h.row b' rfl
  have hlen : (Dsk.new n sz).sure.length = n := by simp [Dsk.new]
  have hF : ∀ x, x ∈ b :: b' :: m :: X → x ∈ b :: m :: ((Value.slice (some ⟨b', 0, none⟩) n c).ownBlock.toList ++ X) := by
    intro x hx
    simp only [List.mem_cons, List.mem_append, Value.ownBlock, Option.toList] at hx ⊢
    rcases hx with e | e | e | e <;> simp [e]
  refine ⟨b', hbb, c, vs, .map [], ?_⟩
  constructor
  · rw [hlen]; exact h.cells
  · rw [hlen]; exact own_rebase h.row (by intro k _; omega)
  · rw [hlen]
    exact ⟨#[], 0, h.map, ⟨by simp, stamped_empty 0, by simp⟩, Nat.zero_le _, rfl⟩
  · intro i hi
    rw [hlen] at hi
    obtain ⟨u, h1, h2⟩ := h.secs i hi
    refine ⟨u, h1, ?_⟩
    have : (Dsk.new n sz).sure[i]'(by rw [hlen]; exact hi) = List.replicate sz 0 := by simp [Dsk.new]
    rw [this]
    exact h2.sub hF
  · intro k hk
    simp [has_eq] at hk
  · intro i _ _
    simp [has_eq]
  · intro i l _ hl
    simp [Dsk.new] at hl
  · exact hz0
  · exact hz1
  · rw [hlen]; exact hn0
  · rw [hlen]; exact hn1
  · simp [Dsk.new]
  · simp [Dsk.new]
  · rintro rfl
    have h1 := hcell 0 (vs[0]'(by have := h.row.1; omega)) (by rw [List.getElem?_eq_getElem])
    rcases h.row.2 with ⟨e, _⟩ | ⟨g', cap, cur, e, _, hh, _⟩
    · cases e
    · simp only [Value.slice.injEq, Option.some.injEq, Addr.mk.injEq] at e
      obtain ⟨⟨rfl, _⟩, _⟩ := e
      have := h.cells
      rw [hh] at this
      simp only [Option.some.injEq, Obj.cells.injEq] at this
      exact absurd this.2.1 (by decide)
  · intro hx; have := hX _ hx; omega
  · intro hx; have := hX _ hx; omega
  · intro hx; have := hX _ hx; omega

set_option maxRecDepth 100000 in
set_option maxHeartbeats 4000000 in
theorem new_any (n size : Int) (X : List Nat) (w : World) (hX : ∀ x ∈ X, x < w.heap.size) :
    Calls Try.prog 42 #[.int .i64 n, .int .i64 size] w fun e w' => ∃ b g m, e = .returned (.pointer (some ⟨b, 0, none⟩)) ∧ w.heap.size ≤ b ∧ w.heap.size ≤ g ∧ w.heap.size ≤ m ∧
      IsDisk w' b g m X (Dsk.new (min (max n 1) 4096).toNat (min (max size 64) 4096).toNat) ∧ Ch [] w w' := by
  have hmm := @run_makeMap Try.prog
  go_enter Try.func42, Try.ntmps42
  go_wp2_with fail
  clear hmm
  refine (within_any n 1 4096 _).mono ?_
  rintro e v5 ⟨rfl, rfl⟩
  obtain ⟨N, hN⟩ : ∃ N : Nat, min (max n 1) 4096 = (N : Int) := ⟨(min (max n 1) 4096).toNat, by omega⟩
  obtain ⟨S, hS⟩ : ∃ S : Nat, min (max size 64) 4096 = (S : Int) := ⟨(min (max size 64) 4096).toNat, by omega⟩
  have hN0 : 1 ≤ N ∧ N ≤ 4096 := by omega
  have hS0 : 64 ≤ S ∧ S ≤ 4096 := by omega
  rw [hN]
  have HS := Lib.hid hS
  have HN := Lib.hid hN
  clear hN hS
  have hN2 := hN0.1
  have h1 : NewAt ((w.alloc (.map #[] 0)).alloc (.cells #[.slice none 0 0, .map (some w.heap.size), .int .i64 (-1), .bool false] 69)) w.heap.size (w.heap.size + 1) w.heap.size X S 0 (.slice none 0 0) [] := by
    constructor
    · have := heap_alloc_new (w.alloc (.map #[] 0)) (.cells #[.slice none 0 0, .map (some w.heap.size), .int .i64 (-1), .bool false] 69)
      simpa using this
    · exact World.ownsRow_nil _ _ _ _
    · exact (Below.heap_alloc (w.alloc (.map #[] 0)) _ _ (by simp)).trans (heap_alloc_new w _)
    · intro i hi
      omega
  have hcW : Ch [] w ((w.alloc (.map #[] 0)).alloc (.cells #[.slice none 0 0, .map (some w.heap.size), .int .i64 (-1), .bool false] 69)) := ((Ch.refl [] w).alloc _).alloc _
  have hB : w.heap.size + 1 < ((w.alloc (.map #[] 0)).alloc (.cells #[.slice none 0 0, .map (some w.heap.size), .int .i64 (-1), .bool false] 69)).heap.size := by simp
  generalize hw1 : (w.alloc (.map #[] 0)).alloc (.cells #[.slice none 0 0, .map (some w.heap.size), .int .i64 (-1), .bool false] 69) = w1 at *
  clear hw1
  generalize hbase : w.heap.size = base at *
  have hbm : base + 1 ≠ base := by omega
  have hbge : base ≤ base + 1 := by omega
  generalize hb : base + 1 = b at *
  clear hb
  go_wp2_with fail
  go_loopw [12] (fun i wr => ∃ (k : Nat) (v : Value) (vs : List Value), k ≤ N ∧ i = .int .i64 k ∧ NewAt wr base b base X S k v vs ∧ Ch [] w wr ∧ b < wr.heap.size) (fun i _ => N - (intOf i).toNat)
  case atStart => exact ⟨0, _, _, Nat.zero_le _, rfl, h1, hcW, hB⟩
  case round =>
    clear h1 hcW hB
    obtain ⟨k, v, vs, hk, rfl, hd, hch, hbl⟩ := hrel
    obtain ⟨wA, hwA⟩ : ∃ W, W = wr := ⟨_, rfl⟩
    subst hwA
    by_cases hlt : k < N
    · have q0 := cell_at hd.cells 0 rfl
      have hwn : Calls Try.prog 79 #[.int .i64 size, .int .i64 64, .int .i64 4096] wA.drew fun e w' => e = .returned (.int .i64 (S : Int)) ∧ wA.drew = w' := by
        rw [← HS.out]
        exact within_any size 64 4096 _
      obtain ⟨w8, hmk, how8, hc8⟩ := make_bytes S wA.drew (by omega)
      have hc8' : Ch [] wA w8 := (Ch.refl _ _).drew.trans hc8 (by simp)
      have q8 := hc8'.cell q0 (by simp)
      have hc9 : Ch [] wA (w8.alloc (.cells #[.slice (some ⟨wA.heap.size, 0, none⟩) S S] 28)) := hc8'.alloc _
      have q9 := hc9.cell q0 (by simp)
      have hrow9 := own_keep hd.row hc9 (by simp)
      have hsz9 := hc9.size
      have hlen8 : w8.heap.size ≤ (w8.alloc (.cells #[.slice (some ⟨wA.heap.size, 0, none⟩) S S] 28)).heap.size := by simp
      have hnewrd : Rd 1 (w8.alloc (.cells #[.slice (some ⟨wA.heap.size, 0, none⟩) S S] 28)) (some ⟨w8.heap.size, 0, none⟩) 1 1 [.slice (some ⟨wA.heap.size, 0, none⟩) S S] :=
        ⟨rfl, Nat.le_refl _, by unfold maxLen; omega, fun _ => ⟨_, 0, rfl, fun j u hu => by
          rcases j with _ | j
          · simp only [List.getElem?_cons_zero, Option.some.injEq] at hu
            subst hu
            exact cell_at (heap_alloc_new _ _) 0 rfl
          · simp at hu⟩⟩
      have hbase9 : base ≤ (w8.alloc (.cells #[.slice (some ⟨wA.heap.size, 0, none⟩) S S] 28)).heap.size := by
        have := hch.size
        omega
      obtain ⟨v1, w10, happ, hrow10, hgr, hat⟩ := run_append_rd (P := Try.prog) 64 28 64 (.slice none 0 0) 1 24 (by decide) Try.underlying64 Try.info28 rfl v k vs [.slice (some ⟨wA.heap.size, 0, none⟩) S S] (some ⟨w8.heap.size, 0, none⟩) 1 1 (by simp [Value.oneCell']) hrow9 hnewrd hbase9 (by omega) (by unfold maxLen; omega)
      obtain ⟨A1, c1, rfl⟩ := own_slice hrow10
      have hvb : ∀ x, v.ownBlock = some x → base ≤ x ∧ x < wA.heap.size ∧ x ≠ b ∧ x ≠ base := by
        intro x hx
        refine ⟨own_ge hd.row x hx, own_lt hd.row x hx, ?_, ?_⟩
        · rintro rfl
          rcases hd.row.2 with ⟨e, _⟩ | ⟨g', cap, cur, e, _, hh, _⟩
          · subst e; cases hx
          · subst e
            simp only [Value.ownBlock, Option.some.injEq] at hx
            subst hx
            have := hd.cells
            rw [hh] at this
            simp only [Option.some.injEq, Obj.cells.injEq] at this
            exact absurd this.2.1 (by decide)
        · rintro rfl
          rcases hd.row.2 with ⟨e, _⟩ | ⟨g', cap, cur, e, _, hh, _⟩
          · subst e; cases hx
          · subst e
            simp only [Value.ownBlock, Option.some.injEq] at hx
            subst hx
            have := hd.map
            rw [hh] at this
            cases this
      have hcG : Ch v.ownBlock.toList (w8.alloc (.cells #[.slice (some ⟨wA.heap.size, 0, none⟩) S S] 28)) w10 := (Ch.refl _ _).grown hgr (fun k hk => .inl (by simp [hk]))
      have hbno : b ∉ v.ownBlock.toList := by
        intro hx
        exact (hvb b (by simpa using hx)).2.2.1 rfl
      have hmno : base ∉ v.ownBlock.toList := by
        intro hx
        exact (hvb base (by simpa using hx)).2.2.2 rfl
      have hb10 := hcG.at_ (hc9.at_ hd.cells (by simp)) hbno
      have f10 := free_at hb10 0
      have q10 := cell_at hb10 0 rfl
      have hc10 : Ch [] w w10 := (hch.trans hc9 (by simp)).trans hcG (by intro x hx; exact .inr (by have := (hvb x (by simpa using hx)).1; omega))
      have hv1b : ∀ x, (Value.slice A1 (k + 1) c1).ownBlock = some x → x ≠ b ∧ x ≠ base := by
        intro x hx
        rcases hat with e | ⟨y, e, hy⟩
        · have := hvb x (by rw [← e]; exact hx)
          exact this.2.2
        · rw [hx] at e
          injection e with e
          omega
      have hfin : NewAt (w10.setCell ⟨b, 0, none⟩ (.slice A1 (k + 1) c1)) base b base X S (k + 1) (.slice A1 (k + 1) c1) (vs ++ [.slice (some ⟨wA.heap.size, 0, none⟩) S S]) := by
        have hcS : Ch [b] w10 (w10.setCell ⟨b, 0, none⟩ (.slice A1 (k + 1) c1)) := (Ch.refl _ _).setCell _ _ (by simp)
        constructor
        · have := heap_setCell_same w10 b 0 _ 69 (.slice A1 (k + 1) c1) hb10
          simpa using this
        · exact own_keep hrow10 hcS (by intro x hx; simpa using (hv1b x hx).1)
        · exact hcS.at_ (hcG.at_ (hc9.at_ hd.map (by simp)) hmno) (by simpa using hbm.symm)
        · intro i hi
          have hvl : vs.length = k := by simpa using hd.row.1
          have perm : ∀ {u l}, SecV (w8.alloc (.cells #[.slice (some ⟨wA.heap.size, 0, none⟩) S S] 28)) (b :: base :: (v.ownBlock.toList ++ X)) S u l → SecV (w10.setCell ⟨b, 0, none⟩ (.slice A1 (k + 1) c1)) (b :: base :: ((Value.slice A1 (k + 1) c1).ownBlock.toList ++ X)) S u l := by
            intro u l hu
            rcases hat with e | ⟨y, e, hy⟩
            · rw [e]
              exact (hu.keep hcG (by intro x hx; simp only [List.mem_cons, List.mem_append]; exact .inr (.inr (.inl hx)))).keep hcS (by simp)
            · rw [e]
              have h2 := hu.add (x := y) (by omega) hy
              refine ((h2.keep hcG (by intro x hx; simp only [List.mem_cons, List.mem_append]; exact .inr (.inr (.inr (.inl hx))))).keep hcS (by simp)).sub ?_
              intro x hx
              simp only [List.mem_cons, List.mem_append, Option.toList] at hx ⊢
              rcases hx with h | h | h | h
              · exact .inr (.inl h)
              · exact .inr (.inr (.inl h))
              · exact .inl (by simpa using h)
              · exact .inr (.inr (.inr (.inr h)))
          by_cases hik : i < k
          · obtain ⟨u, h1, h2⟩ := hd.secs i hik
            refine ⟨u, by rw [List.getElem?_append_left (by omega)]; exact h1, perm (h2.keep hc9 (by simp))⟩
          · obtain rfl : i = k := by omega
            refine ⟨_, by rw [List.getElem?_append_right (by omega), hvl, Nat.sub_self]; rfl, perm ?_⟩
            refine ⟨_, S, rfl, (own_rd how8).keep ((Ch.refl [] _).alloc _) (by simp), ?_⟩
            intro a ha
            injection ha with ha
            subst ha
            simp only [List.mem_cons, List.mem_append, not_or]
            have e2 : wA.drew.heap.size = wA.heap.size := rfl
            have hgeb := hch.size
            refine ⟨by omega, by omega, ?_, ?_⟩
            · intro hx
              have := (hvb _ (by simpa using hx)).2.1
              omega
            · intro hx
              have := hX _ hx
              omega
      have hc11 : Ch [] w (w10.setCell ⟨b, 0, none⟩ (.slice A1 (k + 1) c1)) := hc10.setCell _ _ (.inr (by simp only; omega))
      have hbl11 : b < (w10.setCell ⟨b, 0, none⟩ (.slice A1 (k + 1) c1)).heap.size := by have := hcG.size; simp; omega
      clear hv1b hbno hmno hcG hvb hb10 hbase9 hnewrd hrow9 hrow10 hgr hat how8
      have Hfin := Lib.hid hfin
      clear hfin
      have hq0 : wA.drew.cell? ⟨b, 0, none⟩ = some v := q0
      go_wp2_with fail
      refine dr_begin (by kernel_rfl) ?_
      have hT : True := trivial
      refine dr_take 0 (some 14) (v := ?_) rfl rfl (by kernel_rfl) (by kernel_rfl) (by kernel_rfl) (fun _ _ _ h => h) rfl hT (fun W _ => ?_) ?_
      rotate_left
      · (go_simp; try with_reducible rfl)
      try simp only [Act.put, List.setIfInBounds_toArray, List.set_cons_zero, List.set_cons_succ]
      refine dr_take 1 (some 15) (v := ?_) rfl rfl (by kernel_rfl) (by kernel_rfl) (by kernel_rfl) (fun _ _ _ h => h) rfl hT (fun W _ => ?_) ?_
      rotate_left
      · (go_simp; try with_reducible rfl)
      try simp only [Act.put, List.setIfInBounds_toArray, List.set_cons_zero, List.set_cons_succ]
      refine dr_take 2 (some 16) (v := ?_) rfl rfl (by kernel_rfl) (by kernel_rfl) (by kernel_rfl) (fun _ _ _ h => h) rfl hT (fun W _ => ?_) ?_
      rotate_left
      · (go_simp; try with_reducible rfl)
      try simp only [Act.put, List.setIfInBounds_toArray, List.set_cons_zero, List.set_cons_succ]
      refine dr_take 3 (some 17) (v := ?_) rfl rfl (by kernel_rfl) (by kernel_rfl) (by kernel_rfl) (fun _ _ _ h => h) rfl hT (fun W _ => ?_) ?_
      rotate_left
      · (go_simp; try with_reducible rfl)
      try simp only [Act.put, List.setIfInBounds_toArray, List.set_cons_zero, List.set_cons_succ]
      refine dr_take 4 (some 18) (v := ?_) rfl rfl (by kernel_rfl) (by kernel_rfl) (by kernel_rfl) (fun _ _ _ h => h) rfl hT (fun W _ => ?_) ?_
      rotate_left
      · (go_simp; try with_reducible rfl)
      try simp only [Act.put, List.setIfInBounds_toArray, List.set_cons_zero, List.set_cons_succ]
      refine dr_take 6 (some 20) (v := ?_) rfl rfl (by kernel_rfl) (by kernel_rfl) (by kernel_rfl) (fun _ _ _ h => h) rfl hT (fun W _ => ?_) ?_
      rotate_left
      · (go_simp; try with_reducible rfl)
      try simp only [Act.put, List.setIfInBounds_toArray, List.set_cons_zero, List.set_cons_succ]
      refine dr_step2 5 7 rfl rfl (by kernel_rfl) rfl rfl (fun K hK => ?_) (fun K hK => ?_)
      · go_simp
        refine hK.out _ _ hT ?_
        clear hK K
        try simp only [Act.put, List.setIfInBounds_toArray, List.set_cons_zero, List.set_cons_succ]
        refine dr_step 7 rfl (by kernel_rfl) rfl (fun K hK => ?_)
        go_simp
        refine hwn.mono ?_
        rintro e v7 ⟨rfl, rfl⟩
        refine hK.out _ _ hT ?_
        clear hK K
        try simp only [Act.put, List.setIfInBounds_toArray, List.set_cons_zero, List.set_cons_succ]
        refine dr_step 8 rfl (by kernel_rfl) rfl (fun K hK => ?_)
        go_simp
        refine hK.out _ _ hT ?_
        clear hK K
        try simp only [Act.put, List.setIfInBounds_toArray, List.set_cons_zero, List.set_cons_succ]
        refine dr_step 9 rfl (by kernel_rfl) rfl (fun K hK => ?_)
        go_simp
        refine hK.out _ _ hT ?_
        clear hK K
        try simp only [Act.put, List.setIfInBounds_toArray, List.set_cons_zero, List.set_cons_succ]
        refine dr_step 10 rfl (by kernel_rfl) rfl (fun K hK => ?_)
        refine app_wp (.tmp 19) (.tmp 23) 64 64 v _ _ rfl rfl rfl happ ?_
        refine hK.out _ _ hT ?_
        clear hK K
        try simp only [Act.put, List.setIfInBounds_toArray, List.set_cons_zero, List.set_cons_succ]
        refine dr_take 11 (some 25) (v := ?_) rfl rfl (by kernel_rfl) (by kernel_rfl) (by kernel_rfl) (fun _ _ _ h => h) rfl hT (fun W _ => ?_) ?_
        rotate_left
        · (go_simp; try with_reducible rfl)
        try simp only [Act.put, List.setIfInBounds_toArray, List.set_cons_zero, List.set_cons_succ]
        refine dr_take 12 (some 26) (v := ?_) rfl rfl (by kernel_rfl) (by kernel_rfl) (by kernel_rfl) (fun _ _ _ h => h) rfl hT (fun W _ => ?_) ?_
        rotate_left
        · (go_simp; try with_reducible rfl)
        try simp only [Act.put, List.setIfInBounds_toArray, List.set_cons_zero, List.set_cons_succ]
        refine dr_take 13 (some 27) (v := ?_) rfl rfl (by kernel_rfl) (by kernel_rfl) (by kernel_rfl) (fun _ _ _ h => h) rfl hT (fun W _ => ?_) ?_
        rotate_left
        · (go_simp; try with_reducible rfl)
        try simp only [Act.put, List.setIfInBounds_toArray, List.set_cons_zero, List.set_cons_succ]
        refine dr_step 14 rfl (by kernel_rfl) rfl (fun K hK => ?_)
        go_simp
        refine hK.out _ _ hT ?_
        clear hK K
        try simp only [Act.put, List.setIfInBounds_toArray, List.set_cons_zero, List.set_cons_succ]
        refine dr_done (by kernel_rfl) ?_
        go_wp2_with fail
        go_roundw
        case rel => exact ⟨k + 1, _, _, by omega, by go_num, Hfin.out, hc11, hbl11⟩
        case measure => simp [intOf]; omega
      · go_simp
        refine hwn.mono ?_
        rintro e v7 ⟨rfl, rfl⟩
        refine hK.out _ _ hT ?_
        clear hK K
        try simp only [Act.put, List.setIfInBounds_toArray, List.set_cons_zero, List.set_cons_succ]
        refine dr_step2 5 8 rfl rfl (by kernel_rfl) rfl rfl (fun K hK => ?_) (fun K hK => ?_)
        · go_simp
          refine hK.out _ _ hT ?_
          clear hK K
          try simp only [Act.put, List.setIfInBounds_toArray, List.set_cons_zero, List.set_cons_succ]
          refine dr_step 8 rfl (by kernel_rfl) rfl (fun K hK => ?_)
          go_simp
          refine hK.out _ _ hT ?_
          clear hK K
          try simp only [Act.put, List.setIfInBounds_toArray, List.set_cons_zero, List.set_cons_succ]
          refine dr_step 9 rfl (by kernel_rfl) rfl (fun K hK => ?_)
          go_simp
          refine hK.out _ _ hT ?_
          clear hK K
          try simp only [Act.put, List.setIfInBounds_toArray, List.set_cons_zero, List.set_cons_succ]
          refine dr_step 10 rfl (by kernel_rfl) rfl (fun K hK => ?_)
          refine app_wp (.tmp 19) (.tmp 23) 64 64 v _ _ rfl rfl rfl happ ?_
          refine hK.out _ _ hT ?_
          clear hK K
          try simp only [Act.put, List.setIfInBounds_toArray, List.set_cons_zero, List.set_cons_succ]
          refine dr_take 11 (some 25) (v := ?_) rfl rfl (by kernel_rfl) (by kernel_rfl) (by kernel_rfl) (fun _ _ _ h => h) rfl hT (fun W _ => ?_) ?_
          rotate_left
          · (go_simp; try with_reducible rfl)
          try simp only [Act.put, List.setIfInBounds_toArray, List.set_cons_zero, List.set_cons_succ]
          refine dr_take 12 (some 26) (v := ?_) rfl rfl (by kernel_rfl) (by kernel_rfl) (by kernel_rfl) (fun _ _ _ h => h) rfl hT (fun W _ => ?_) ?_
          rotate_left
          · (go_simp; try with_reducible rfl)
          try simp only [Act.put, List.setIfInBounds_toArray, List.set_cons_zero, List.set_cons_succ]
          refine dr_take 13 (some 27) (v := ?_) rfl rfl (by kernel_rfl) (by kernel_rfl) (by kernel_rfl) (fun _ _ _ h => h) rfl hT (fun W _ => ?_) ?_
          rotate_left
          · (go_simp; try with_reducible rfl)
          try simp only [Act.put, List.setIfInBounds_toArray, List.set_cons_zero, List.set_cons_succ]
          refine dr_step 14 rfl (by kernel_rfl) rfl (fun K hK => ?_)
          go_simp
          refine hK.out _ _ hT ?_
          clear hK K
          try simp only [Act.put, List.setIfInBounds_toArray, List.set_cons_zero, List.set_cons_succ]
          refine dr_done (by kernel_rfl) ?_
          go_wp2_with fail
          go_roundw
          case rel => exact ⟨k + 1, _, _, by omega, by go_num, Hfin.out, hc11, hbl11⟩
          case measure => simp [intOf]; omega
        · go_simp
          refine hK.out _ _ hT ?_
          clear hK K
          try simp only [Act.put, List.setIfInBounds_toArray, List.set_cons_zero, List.set_cons_succ]
          refine dr_step2 5 9 rfl rfl (by kernel_rfl) rfl rfl (fun K hK => ?_) (fun K hK => ?_)
          · go_simp
            refine hK.out _ _ hT ?_
            clear hK K
            try simp only [Act.put, List.setIfInBounds_toArray, List.set_cons_zero, List.set_cons_succ]
            refine dr_step 9 rfl (by kernel_rfl) rfl (fun K hK => ?_)
            go_simp
            refine hK.out _ _ hT ?_
            clear hK K
            try simp only [Act.put, List.setIfInBounds_toArray, List.set_cons_zero, List.set_cons_succ]
            refine dr_step 10 rfl (by kernel_rfl) rfl (fun K hK => ?_)
            refine app_wp (.tmp 19) (.tmp 23) 64 64 v _ _ rfl rfl rfl happ ?_
            refine hK.out _ _ hT ?_
            clear hK K
            try simp only [Act.put, List.setIfInBounds_toArray, List.set_cons_zero, List.set_cons_succ]
            refine dr_take 11 (some 25) (v := ?_) rfl rfl (by kernel_rfl) (by kernel_rfl) (by kernel_rfl) (fun _ _ _ h => h) rfl hT (fun W _ => ?_) ?_
            rotate_left
            · (go_simp; try with_reducible rfl)
            try simp only [Act.put, List.setIfInBounds_toArray, List.set_cons_zero, List.set_cons_succ]
            refine dr_take 12 (some 26) (v := ?_) rfl rfl (by kernel_rfl) (by kernel_rfl) (by kernel_rfl) (fun _ _ _ h => h) rfl hT (fun W _ => ?_) ?_
            rotate_left
            · (go_simp; try with_reducible rfl)
            try simp only [Act.put, List.setIfInBounds_toArray, List.set_cons_zero, List.set_cons_succ]
            refine dr_take 13 (some 27) (v := ?_) rfl rfl (by kernel_rfl) (by kernel_rfl) (by kernel_rfl) (fun _ _ _ h => h) rfl hT (fun W _ => ?_) ?_
            rotate_left
            · (go_simp; try with_reducible rfl)
            try simp only [Act.put, List.setIfInBounds_toArray, List.set_cons_zero, List.set_cons_succ]
            refine dr_step 14 rfl (by kernel_rfl) rfl (fun K hK => ?_)
            go_simp
            refine hK.out _ _ hT ?_
            clear hK K
            try simp only [Act.put, List.setIfInBounds_toArray, List.set_cons_zero, List.set_cons_succ]
            refine dr_done (by kernel_rfl) ?_
            go_wp2_with fail
            go_roundw
            case rel => exact ⟨k + 1, _, _, by omega, by go_num, Hfin.out, hc11, hbl11⟩
            case measure => simp [intOf]; omega
          · go_simp
            refine hK.out _ _ hT ?_
            clear hK K
            try simp only [Act.put, List.setIfInBounds_toArray, List.set_cons_zero, List.set_cons_succ]
            refine dr_step 5 rfl (by kernel_rfl) rfl (fun K hK => ?_)
            go_simp
            refine hK.out _ _ hT ?_
            clear hK K
            try simp only [Act.put, List.setIfInBounds_toArray, List.set_cons_zero, List.set_cons_succ]
            refine dr_step 10 rfl (by kernel_rfl) rfl (fun K hK => ?_)
            refine app_wp (.tmp 19) (.tmp 23) 64 64 v _ _ rfl rfl rfl happ ?_
            refine hK.out _ _ hT ?_
            clear hK K
            try simp only [Act.put, List.setIfInBounds_toArray, List.set_cons_zero, List.set_cons_succ]
            refine dr_take 11 (some 25) (v := ?_) rfl rfl (by kernel_rfl) (by kernel_rfl) (by kernel_rfl) (fun _ _ _ h => h) rfl hT (fun W _ => ?_) ?_
            rotate_left
            · (go_simp; try with_reducible rfl)
            try simp only [Act.put, List.setIfInBounds_toArray, List.set_cons_zero, List.set_cons_succ]
            refine dr_take 12 (some 26) (v := ?_) rfl rfl (by kernel_rfl) (by kernel_rfl) (by kernel_rfl) (fun _ _ _ h => h) rfl hT (fun W _ => ?_) ?_
            rotate_left
            · (go_simp; try with_reducible rfl)
            try simp only [Act.put, List.setIfInBounds_toArray, List.set_cons_zero, List.set_cons_succ]
            refine dr_take 13 (some 27) (v := ?_) rfl rfl (by kernel_rfl) (by kernel_rfl) (by kernel_rfl) (fun _ _ _ h => h) rfl hT (fun W _ => ?_) ?_
            rotate_left
            · (go_simp; try with_reducible rfl)
            try simp only [Act.put, List.setIfInBounds_toArray, List.set_cons_zero, List.set_cons_succ]
            refine dr_step 14 rfl (by kernel_rfl) rfl (fun K hK => ?_)
            go_simp
            refine hK.out _ _ hT ?_
            clear hK K
            try simp only [Act.put, List.setIfInBounds_toArray, List.set_cons_zero, List.set_cons_succ]
            refine dr_done (by kernel_rfl) ?_
            go_wp2_with fail
            go_roundw
            case rel => exact ⟨k + 1, _, _, by omega, by go_num, Hfin.out, hc11, hbl11⟩
            case measure => simp [intOf]; omega
    · obtain rfl : k = N := by omega
      clear hlt
      go_wp2_with fail
      go_ret
      obtain ⟨g, hg, hdk⟩ := hd.disk (by omega) (by omega) (by omega) (by omega) hX hbge (Nat.le_refl _) hbm
      refine ⟨b, g, base, rfl, by omega, by omega, by omega, ?_, hch⟩
      rw [HS.out, HN.out, Int.toNat_natCast, Int.toNat_natCast]
      exact hdk

end Go.Proofs.Ytbkncfedahifkaa
