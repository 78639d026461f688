/-
  StoreTurned.
-/
import Derived.Test.YtbkncfedahifkaaGreatStMore
import Derived.Test.YtbkncfedahifkaaGreatStRep
import Derived.Test.YtbkncfedahifkaaGreatStorePrefix
import Derived.Test.YtbkncfedahifkaaGreatLPairs
import Derived.Test.YtbkncfedahifkaaGreatStFull
set_option linter.unusedVariables false
set_option linter.unusedSimpArgs false
namespace Go.Proofs.YtbkncfedahifkaaGreat
open Go.RowKit Go.Maps Go.Sort Go.Shelf

def tpair (x : List UInt8) : PairL := ⟨x, x ++ [33], false⟩
theorem add_mark (x : List UInt8) (h : x.length ≤ 1000000) : binOp .add 9 (.string (str x)) (.string ⟨#[33]⟩) = pure (.string (str (x ++ [33]))) := by
  rw [binOp_string_add]
  unfold Op.stringOp
  have h1 : (str x).size = x.length := rfl
  have h2 : (⟨#[33]⟩ : ByteArray).size = 1 := rfl
  have h3 : IntKind.i64.max = 9223372036854775807 := by decide
  have h4 : str x ++ ⟨#[33]⟩ = str (x ++ [33]) := by
    unfold str
    ext1
    simp
  simp only [h1, h2, h3, h4]
  rw [if_neg (by omega)]
theorem tpair_ok {x : List UInt8} (h : x.length ≤ 50) : ∀ q ∈ [tpair x], q.ok ∧ q.k.length ≤ 50 ∧ q.v.length ≤ 51 := by
  intro q hq
  rw [List.mem_singleton] at hq
  subst hq
  simp [tpair, PairL.ok]
  omega
/-- append(v, ys...) as a loud step of a region that draws its order. -/
theorem wp_append_rd {P : Program} {o : Oper} {a : Act} {W : World} {K : Act → World → Prop} {Q : Exit → Act → World → Prop} {base : Nat} (s x : Operand) (t e : TypeId) (z : Value) (sz bytes : Nat) (hsz : 0 < sz)
    (ho : o.op = .call { callee := .builtin .append, args := #[s, x], argTypes := #[t, t] })
    (ht : P.underlying t = some (.slice e)) (hinfo : (P.info? e).map (fun i => (i.zero, i.size, i.bytes)) = some (some z, sz, bytes)) (hz : z.cells.size = sz)
    (v : Value) (n : Nat) (xs ys : List Value) (A : Option Addr) (m c : Nat) (hs : a.eval s = v) (hx : a.eval x = .slice A m c) (h1 : ∀ u ∈ ys, u.oneCell' = true)
    (HO : W.ownsRow base e sz v n xs) (HR : Rd sz W A m c ys) (hbase : base ≤ W.heap.size) (hl : (n + m) * bytes ≤ 140737488355328) (hm : n + m ≤ maxLen)
    (h : ∀ v1 w1, w1.ownsRow base e sz v1 (n + m) (xs ++ ys) → W.grownBy w1 v.ownBlock → K (a.put o.dst v1) w1) : o.wp P a W K Q := by
  obtain ⟨v1, w1, hr, h2, h3, h4⟩ := run_append_rd (P := P) t e o.type z sz bytes hsz ht hinfo hz v n xs ys A m c h1 HO HR hbase hl hm
  unfold Oper.wp execOp
  simp only [ho, resolve, invoke, builtin, Sem.run_bind, Sem.run_pure, Result.andThen_ok, List.map_toArray, List.map_cons, List.map_nil, hs, hx, hr]
  exact h _ _ h2 h3
/-- The puts of a list's marks, in whatever order. -/
theorem turned_same {L : List (List UInt8)} {ps : List PairL} (hL : ∀ x ∈ L, x.length ≤ 50) (h1 : ∀ p ∈ ps, ∃ x ∈ L, p = tpair x) (h2 : ∀ x ∈ L, tpair x ∈ ps) :
    chgs (.map []) ps = chgs (.map []) (L.map tpair) ∧ (∀ y, y ∈ keysL (chgs (.map []) (L.map tpair)) → has (chgs (.map []) (L.map tpair)) (skey y) = true ∧ getL (chgs (.map []) (L.map tpair)) y = y ++ [33] ∧ y.length ≤ 50) := by
  have hok : ∀ x, x.length ≤ 50 → (tpair x).ok := fun x hx => ⟨by show x.length ≤ 1000; omega, by show (x ++ [33]).length ≤ 1000; simp; omega⟩
  have hm0 : IsMap (.map [] : Mp) := ⟨[], rfl⟩
  have g1 : ∀ p ∈ ps, p.gone = false ∧ p.v = p.k ++ [33] := by
    intro p hp
    obtain ⟨x, _, rfl⟩ := h1 p hp
    exact ⟨rfl, rfl⟩
  have g2 : ∀ p ∈ L.map tpair, p.gone = false ∧ p.v = p.k ++ [33] := by
    intro p hp
    obtain ⟨x, _, rfl⟩ := List.mem_map.1 hp
    exact ⟨rfl, rfl⟩
  have s1 : StrMap (chgs (.map []) ps) := strMap_chgs strMap_empty (fun p hp => by obtain ⟨x, hx, rfl⟩ := h1 p hp; exact hok x (hL x hx))
  have s2 : StrMap (chgs (.map []) (L.map tpair)) := strMap_chgs strMap_empty (fun p hp => by obtain ⟨x, hx, rfl⟩ := List.mem_map.1 hp; exact hok x (hL x hx))
  have m1 : ∀ y, has (chgs (.map []) ps) (skey y) = true ↔ y ∈ L := by
    intro y
    rw [has_puts ps _ hm0 (fun p hp => (g1 p hp).1) y, has_empty]
    constructor
    · rintro (h | ⟨p, hp, rfl⟩)
      · cases h
      · obtain ⟨x, hx, rfl⟩ := h1 p hp
        exact hx
    · exact fun hy => .inr ⟨_, h2 y hy, rfl⟩
  have m2 : ∀ y, has (chgs (.map []) (L.map tpair)) (skey y) = true ↔ y ∈ L := by
    intro y
    rw [has_puts _ _ hm0 (fun p hp => (g2 p hp).1) y, has_empty]
    constructor
    · rintro (h | ⟨p, hp, rfl⟩)
      · cases h
      · obtain ⟨x, hx, rfl⟩ := List.mem_map.1 hp
        exact hx
    · exact fun hy => .inr ⟨_, List.mem_map_of_mem hy, rfl⟩
  have v1 : ∀ y ∈ L, getL (chgs (.map []) ps) y = y ++ [33] := fun y hy => getL_puts (fun y => y ++ [33]) ps _ hm0 g1 y (.inl ⟨_, h2 y hy, rfl⟩)
  have v2 : ∀ y ∈ L, getL (chgs (.map []) (L.map tpair)) y = y ++ [33] := fun y hy => getL_puts (fun y => y ++ [33]) _ _ hm0 g2 y (.inl ⟨_, List.mem_map_of_mem hy, rfl⟩)
  refine ⟨strMap_ext s1 s2 (fun y => by rw [m1, m2]) (fun y hy => by rw [v1 y ((m1 y).1 hy), v2 y ((m1 y).1 hy)]), ?_⟩
  intro y hy
  have hh := (strMap_mem s2 y).1 hy
  have hl := (m2 y).1 hh
  exact ⟨hh, v2 y hl, hL y hl⟩
theorem turned_all {n t : Nat} (hn : 0 < n) (j : Nat) (hj : j < n) : ∃ i, i < n ∧ (i + t) % n = j := by
  refine ⟨(j + (n - t % n)) % n, Nat.mod_lt _ hn, ?_⟩
  have h1 := Nat.mod_lt t hn
  rw [Nat.mod_add_mod]
  have : j + (n - t % n) + t = j + n * (1 + t / n) := by
    have h2 := Nat.div_add_mod t n
    rw [Nat.mul_add, Nat.mul_one]
    omega
  rw [this, Nat.add_mul_mod_self_left, Nat.mod_eq_of_lt hj]
theorem tp_cells (L : List (List UInt8)) {w : World} {A : Option Addr} {n c : Nat} (h : Rd 3 w A n c ((L.map tpair).flatMap PairL.cells)) (hn : L.length = n) (j : Nat) (hj : j < L.length) :
    ∃ b o, A = some ⟨b, o, none⟩ ∧ w.cell? ⟨b, o + j * 3, none⟩ = some (.string (str L[j])) ∧ w.cell? ⟨b, o + j * 3 + 1, none⟩ = some (.string (str (L[j] ++ [33]))) ∧ w.cell? ⟨b, o + j * 3 + 2, none⟩ = some (.bool false) := by
  obtain ⟨b, o, e, hc⟩ := h.cells (by omega)
  have q : ∀ i, i < 3 → ((L.map tpair).flatMap PairL.cells)[j * 3 + i]? = (PairL.cells (tpair L[j]))[i]? := by
    intro i hi
    have := flatMap_even_get PairL.cells 3 (fun _ => rfl) (L.map tpair) j (by simpa using hj) i hi
    rw [this, List.getElem_map]
  refine ⟨b, o, e, hc (j * 3) _ ?_, ?_, ?_⟩
  · have := q 0 (by omega)
    rw [Nat.add_zero] at this
    rw [this]; rfl
  · rw [Nat.add_assoc]
    exact hc (j * 3 + 1) _ (by rw [q 1 (by omega)]; rfl)
  · rw [Nat.add_assoc]
    exact hc (j * 3 + 2) _ (by rw [q 2 (by omega)]; rfl)

set_option maxRecDepth 100000 in
set_option maxHeartbeats 8000000 in
theorem store_turned (A : Option Addr) (n c : Nat) (L : List (List UInt8)) (t : Int) (w : World) (hr : Rd 1 w A n c (L.map encStr)) (ht0 : 0 ≤ t) (ht1 : t < 256) :
    Calls Tryz.prog 3 #[.slice A n c, .int .u8 t] w fun e w' => e = .returned (.bool true) ∧ Ch [] w w' := by
  have hl : L.length = n := by have := hr.len; simpa using this
  have hcc := hr.cap
  have hcm := hr.max
  go_enter Tryz.func3, Tryz.ntmps3
  go_wp2_with fail
  refine (known5 w).mono ?_
  rintro e w1 ⟨rfl, hc1⟩
  by_cases hn : n ≤ 12
  case neg =>
    go_wp2_with fail
    go_ret
    exact ⟨rfl, hc1⟩
  have hnd := newdiskS_any 400 512 [] w1 (by simp) (by omega) (by omega) (by omega) (by omega)
  rw [show ((400 : Nat) : Int) = 400 from rfl, show ((512 : Nat) : Int) = 512 from rfl] at hnd
  go_wp2_with fail
  refine hnd.mono ?_
  rintro e w2 ⟨b, g, m, rfl, hb, hg, hm, hlt2, hd2, hc2⟩
  clear hnd
  have ho := stopen_any w2 hd2 (by simp) (by omega) (by omega) (by omega)
  go_wp2_with fail
  refine ho.mono ?_
  rintro e w3 ⟨sb, lb, um, rfl, hsb, hlb, hum, hs3, hc3⟩
  clear ho hd2
  have hc03 := (hc1.trans hc2 (by simp)).trans hc3 (by simp)
  have ho3 := hs3.out
  have hz1 := hc1.size
  have hz2 := hc2.size
  have hz3 := hc3.size
  have hsw : w.heap.size ≤ b ∧ w.heap.size ≤ g ∧ w.heap.size ≤ m ∧ w.heap.size ≤ sb ∧ w.heap.size ≤ lb ∧ w.heap.size ≤ um := by omega
  have HSW := Lib.hid hsw
  clear hsw hc1 hc2 hc3 hz1 hz2 hz3
  have hnd := newdiskS_any 400 512 [sb, lb, um, b, g, m] w3 (by simp; omega) (by omega) (by omega) (by omega) (by omega)
  rw [show ((400 : Nat) : Int) = 400 from rfl, show ((512 : Nat) : Int) = 512 from rfl] at hnd
  go_wp2_with fail
  refine hnd.mono ?_
  rintro e w4 ⟨b2, g2, m2, rfl, hb2, hg2, hm2, hlt4, hd4, hc4⟩
  clear hnd
  have hz4 := hc4.size
  have ho := stopen_any w4 hd4 (by simp; omega) (by omega) (by omega) (by omega)
  go_wp2_with fail
  refine ho.mono ?_
  rintro e w5 ⟨sb2, lb2, um2, rfl, hsb2, hlb2, hum2, hs5, hc5⟩
  clear ho hd4
  have hz5 := hc5.size
  have hcA := hc4.trans hc5 (by simp)
  have hA5 := ((((((hs3.add (x := sb2) (by omega)).add (x := lb2) (by omega)).add (x := um2) (by omega)).add (x := b2) (by omega)).add (x := g2) (by omega)).add (x := m2) (by omega)).nil hcA
  have ho5 := hs5.out
  have hc05 := hc03.trans hcA (by simp)
  have hsw2 : w.heap.size ≤ b2 ∧ w.heap.size ≤ g2 ∧ w.heap.size ≤ m2 ∧ w.heap.size ≤ sb2 ∧ w.heap.size ≤ lb2 ∧ w.heap.size ≤ um2 := by have := hc03.size; omega
  have HSW2 := Lib.hid hsw2
  have hup : sb < w5.heap.size ∧ lb < w5.heap.size ∧ um < w5.heap.size ∧ b < w5.heap.size ∧ g < w5.heap.size ∧ m < w5.heap.size ∧ sb2 < w5.heap.size ∧ lb2 < w5.heap.size ∧ um2 < w5.heap.size ∧ b2 < w5.heap.size ∧ g2 < w5.heap.size ∧ m2 < w5.heap.size := by omega
  have HUP := Lib.hid hup
  clear hsw2 hup hcA hc03 hc4 hc5 hs3 hz4 hz5 ho3 ho5 hsb hlb hum hb hg hm hlt2 hlt4 hsb2 hlb2 hum2 hb2 hg2 hm2
  go_wp2_with fail
  go_loopw [9, 10] (fun lv ki wr => ∃ k : Nat, k ≤ n ∧ ki = .int .i64 (k : Int) ∧ wr.ownsRow w5.heap.size 32 3 lv k (((L.take k).map tpair).flatMap PairL.cells) ∧ (∀ x ∈ L.take k, x.length ≤ 50) ∧ Ch [] w5 wr) (fun _ ki _ => n - (intOf ki).toNat)
  case atStart => exact ⟨0, by omega, rfl, World.ownsRow_nil _ _ _ _, by simp, Ch.refl _ _⟩
  case round =>
    obtain ⟨k, hk, rfl, hrow, h50, hch⟩ := hrel
    obtain ⟨wA, hwA⟩ : ∃ W, W = wr := ⟨_, rfl⟩
    subst hwA
    have H50 := Lib.hid h50
    have hcwA := hc05.trans hch (by simp)
    clear h50
    by_cases hlt : k < n
    · obtain ⟨pb, po, rfl, hcell0⟩ := strs_cell hr k (by omega)
      have hcell := hcwA.cell hcell0 (by simp)
      have e1 : (L.take (k + 1)).map tpair = (L.take k).map tpair ++ [tpair (L[k]'(by omega))] := by rw [List.take_succ_eq_append_getElem (by omega), List.map_append]; rfl
      have e2 : L.take (k + 1) = L.take k ++ [L[k]'(by omega)] := List.take_succ_eq_append_getElem (by omega)
      generalize L[k]'(by omega) = x at *
      have E1 := Lib.hid e1
      have E2 := Lib.hid e2
      clear e1 e2
      by_cases hx : x.length ≤ 50
      case neg =>
        have hz : 50 < (str x).size := by rw [str_size]; omega
        go_wp2_with fail
        go_ret
        exact ⟨rfl, hcwA⟩
      have hz : (str x).size ≤ 50 := by rw [str_size]; exact hx
      have hadd := add_mark x (by omega)
      obtain ⟨Ao, co, rfl⟩ := own_slice hrow
      have hkn : (k : Int) < (n : Int) := by omega
      go_wp2_with fail
      refine dr_begin (by kernel_rfl) ?_
      refine dr_more (fun W => W.cell? ⟨pb, po + k, none⟩ = some (.string (str x))) ?_
      have hT : True ∧ (wA.drew.cell? ⟨pb, po + k, none⟩ = some (.string (str x))) := ⟨trivial, hcell⟩
      refine dr_take 0 (some 50) (v := ?_) rfl rfl (by kernel_rfl) (by kernel_rfl) (by kernel_rfl) (fun _ _ _ h => h) rfl hT (fun W _ => ?_) ?_
      rotate_left
      · (go_simp; try with_reducible rfl)
      try simp only [Act.put, List.setIfInBounds_toArray, List.set_cons_zero, List.set_cons_succ]
      refine dr_take 1 (some 51) (v := ?_) rfl rfl (by kernel_rfl) (by kernel_rfl) (by kernel_rfl) (fun _ _ _ h => h) rfl hT (fun W _ => ?_) ?_
      rotate_left
      · (go_simp; try with_reducible rfl)
      try simp only [Act.put, List.setIfInBounds_toArray, List.set_cons_zero, List.set_cons_succ]
      refine dr_take 2 (some 52) (v := ?_) rfl rfl (by kernel_rfl) (by kernel_rfl) (by kernel_rfl) (fun _ _ _ h => h) rfl hT (fun W _ => ?_) ?_
      rotate_left
      · (go_simp; try with_reducible rfl)
      try simp only [Act.put, List.setIfInBounds_toArray, List.set_cons_zero, List.set_cons_succ]
      refine dr_take 3 (some 53) (v := ?_) rfl rfl (by kernel_rfl) (by kernel_rfl) (by kernel_rfl) (fun _ _ _ h => h) rfl hT (fun W _ => ?_) ?_
      rotate_left
      · (go_simp; try with_reducible rfl)
      try simp only [Act.put, List.setIfInBounds_toArray, List.set_cons_zero, List.set_cons_succ]
      refine dr_take 4 (some 54) (v := ?_) rfl rfl (by kernel_rfl) (by kernel_rfl) (by kernel_rfl) (fun _ _ _ h => h) rfl hT (fun W hW => ?_) ?_
      rotate_left
      · (have h1 := hW.2; go_simp; try with_reducible rfl)
      try simp only [Act.put, List.setIfInBounds_toArray, List.set_cons_zero, List.set_cons_succ]
      refine dr_take 5 (some 55) (v := ?_) rfl rfl (by kernel_rfl) (by kernel_rfl) (by kernel_rfl) (fun _ _ _ h => h) rfl hT (fun W _ => ?_) ?_
      rotate_left
      · (go_simp; try with_reducible rfl)
      try simp only [Act.put, List.setIfInBounds_toArray, List.set_cons_zero, List.set_cons_succ]
      refine dr_take 6 (some 56) (v := ?_) rfl rfl (by kernel_rfl) (by kernel_rfl) (by kernel_rfl) (fun _ _ _ h => h) rfl hT (fun W _ => ?_) ?_
      rotate_left
      · (go_simp; try with_reducible rfl)
      try simp only [Act.put, List.setIfInBounds_toArray, List.set_cons_zero, List.set_cons_succ]
      refine dr_take 7 (some 57) (v := ?_) rfl rfl (by kernel_rfl) (by kernel_rfl) (by kernel_rfl) (fun _ _ _ h => h) rfl hT (fun W _ => ?_) ?_
      rotate_left
      · (go_simp; try with_reducible rfl)
      try simp only [Act.put, List.setIfInBounds_toArray, List.set_cons_zero, List.set_cons_succ]
      refine dr_take 8 (some 58) (v := ?_) rfl rfl (by kernel_rfl) (by kernel_rfl) (by kernel_rfl) (fun _ _ _ h => h) rfl hT (fun W hW => ?_) ?_
      rotate_left
      · (have h1 := hW.2; go_simp; try with_reducible rfl)
      try simp only [Act.put, List.setIfInBounds_toArray, List.set_cons_zero, List.set_cons_succ]
      refine dr_take 9 (some 59) (v := ?_) rfl rfl (by kernel_rfl) (by kernel_rfl) (by kernel_rfl) (fun _ _ _ h => h) rfl hT (fun W hW => ?_) ?_
      rotate_left
      · (have h1 := hadd; go_simp; try with_reducible rfl)
      try simp only [Act.put, List.setIfInBounds_toArray, List.set_cons_zero, List.set_cons_succ]
      refine dr_take 10 (some 60) (v := ?_) rfl rfl (by kernel_rfl) (by kernel_rfl) (by kernel_rfl) (fun _ _ _ h => h) rfl hT (fun W _ => ?_) ?_
      rotate_left
      · (go_simp; try with_reducible rfl)
      try simp only [Act.put, List.setIfInBounds_toArray, List.set_cons_zero, List.set_cons_succ]
      refine dr_step 11 rfl (by kernel_rfl) rfl (fun K hK => ?_)
      go_simp
      have hcX : Ch [] wA (wA.alloc (.cells #[.string (str x), .string (str (x ++ [33])), .bool false] 32)).drew := ((Ch.refl [] wA).alloc _).drew
      have hbX : (wA.alloc (.cells #[.string (str x), .string (str (x ++ [33])), .bool false] 32)).drew.heap[wA.heap.size]? = _ := heap_alloc_new wA (.cells #[.string (str x), .string (str (x ++ [33])), .bool false] 32)
      generalize (wA.alloc (.cells #[.string (str x), .string (str (x ++ [33])), .bool false] 32)).drew = w0 at *
      try simp only [World.drew_heap]
      refine hK _ _ ⟨trivial, hcX.cell hcell (by simp)⟩ ?_
      have hT : True ∧ (w0.cell? ⟨pb, po + k, none⟩ = some (.string (str x))) := ⟨trivial, hcX.cell hcell (by simp)⟩
      clear hK K
      try simp only [Act.put, List.setIfInBounds_toArray, List.set_cons_zero, List.set_cons_succ]
      refine dr_step 12 rfl (by kernel_rfl) rfl (fun K hK => ?_)
      have hrow0 := own_keep hrow hcX (by simp)
      have hrd0 := pairs_one (p := tpair x) hbX
      have hcw0 := hch.trans hcX (by simp)
      have hz0 := hcw0.size
      refine wp_append_rd (.tmp 50) (.tmp 61) 30 32 _ 3 40 (by omega) rfl Tryz.underlying30 Tryz.info32 rfl (.slice Ao k co) k _ ([tpair x].flatMap PairL.cells) (some ⟨wA.heap.size, 0, none⟩) 1 1 rfl rfl (pcells_one _) hrow0 hrd0 hz0 (by omega) (by unfold maxLen; omega) ?_
      intro v1 w8 hrow8 hgr
      rw [← List.flatMap_append, ← E1.out] at hrow8
      have hc8 : Ch [] w5 w8 := hcw0.grown hgr (fun q hq => .inr (own_ge hrow0 q hq))
      have hcell8 := (hc05.trans hc8 (by simp)).cell hcell0 (by simp)
      refine hK _ _ ⟨trivial, hcell8⟩ ?_
      clear hK K hT
      have hT : True ∧ (w8.cell? ⟨pb, po + k, none⟩ = some (.string (str x))) := ⟨trivial, hcell8⟩
      try simp only [Act.put, List.setIfInBounds_toArray, List.set_cons_zero, List.set_cons_succ]
      refine dr_take 13 (some 9) (v := ?_) rfl rfl (by kernel_rfl) (by kernel_rfl) (by kernel_rfl) (fun _ _ _ h => h) rfl hT (fun W _ => ?_) ?_
      rotate_left
      · (go_simp; try with_reducible rfl)
      try simp only [Act.put, List.setIfInBounds_toArray, List.set_cons_zero, List.set_cons_succ]
      refine dr_done (by kernel_rfl) ?_
      go_wp2_with fail
      refine ⟨⟨k + 1, by omega, by go_num, hrow8, ?_, hc8⟩, ?_⟩
      · rw [E2.out]
        intro y hy
        rcases List.mem_append.1 hy with hy | hy
        · exact H50.out y hy
        · rw [List.mem_singleton] at hy
          subst hy
          exact hx
      · simp [intOf]
        omega
    · obtain rfl : k = n := by omega
      clear hlt hk
      rw [List.take_of_length_le (by omega)] at hrow
      have h50 : ∀ x ∈ L, x.length ≤ 50 := by have := H50.out; rwa [List.take_of_length_le (by omega)] at this
      obtain ⟨Ao, co, rfl⟩ := own_slice hrow
      have hrdL := own_rd hrow
      have hAk := hA5.nil hch
      have hBk := hs5.nil hch
      have hzc := hch.size
      have hge : ∀ ad, Ao = some ad → w5.heap.size ≤ ad.block := by
        intro ad had
        subst had
        exact own_ge hrow ad.block rfl
      have hok : ∀ q ∈ L.map tpair, q.ok ∧ q.k.length ≤ 50 ∧ q.v.length ≤ 51 := by
        intro q hq
        obtain ⟨x, hx, rfl⟩ := List.mem_map.1 hq
        exact tpair_ok (h50 x hx) _ (by simp)
      have ha := stapply_any Ao k co (L.map tpair) wA hAk (by have := HUP.out; simp; omega) hrdL (by simpa using hl) (by omega) (fun q hq => (hok q hq).1) (by omega) (commitP_fit 400 512 0 50 51 (L.map tpair) hok (by omega) (by rw [List.length_map]; omega))
      have hOW := Lib.hid hok
      clear hok hA5 hs5
      go_wp2_with fail
      refine ha.mono ?_
      rintro e wB ⟨rfl, hsA, hcB⟩
      clear ha hAk
      have hsB := hBk.keep (hcB.mono (by simp))
      have hrdB := hrdL.keep hcB (by intro ad had hin; have := hge ad had; have := HUP.out; simp at hin; omega)
      have hcwB : Ch [] w wB := hcwA.trans hcB (by have := HSW.out; intro y hy; simp at hy; omega)
      have hzb := hcB.size
      have H50b := Lib.hid h50
      have HGE := Lib.hid hge
      clear hcB hBk hrdL hrow h50 hge H50 hcwA
      obtain ⟨tn, htn⟩ : ∃ tn : Nat, (tn : Int) = t := ⟨t.toNat, by omega⟩
      subst htn
      go_wp2_with fail
      go_loopw [11] (fun ki wr => ∃ (i a : Nat) (ps : List PairL), i ≤ k ∧ ki = .int .i64 (i : Int) ∧ a ≤ i ∧ (∀ p ∈ ps, ∃ x ∈ L, p = tpair x) ∧ (∀ j, j < i → tpair (L.getD ((j + tn) % k) []) ∈ ps) ∧ StoreS wr sb2 lb2 um2 b2 g2 m2 [sb, lb, um, b, g, m] 400 512 0 a (chgs (.map []) ps) ∧ Ch [sb2, lb2, um2, b2, g2, m2] wB wr) (fun ki _ => k - (intOf ki).toNat)
      case atStart => exact ⟨0, 0, [], by omega, rfl, by omega, by simp, by omega, by simpa [chgs] using hsB, Ch.refl _ _⟩
      case round =>
        clear hsB
        obtain ⟨i, a, ps, hi, rfl, hai, hps1, hps2, hsB, hch2⟩ := hrel
        obtain ⟨wC, hwC⟩ : ∃ W, W = wr := ⟨_, rfl⟩
        subst hwC
        have HP1 := Lib.hid hps1
        have HP2 := Lib.hid hps2
        clear hps1 hps2
        have hrdC := hrdB.keep hch2 (by intro ad had hin; have := HGE.out ad had; have := HUP.out; simp at hin; omega)
        have hcwC := hcwB.trans hch2 (by have := HSW2.out; intro y hy; simp at hy; omega)
        have hzC := hch2.size
        by_cases hlt2 : i < k
        · obtain ⟨s, hs⟩ : ∃ s : Nat, s = i + tn := ⟨_, rfl⟩
          obtain ⟨j, hj⟩ : ∃ j : Nat, j = s % k := ⟨_, rfl⟩
          have hjk : j < k := by rw [hj]; exact Nat.mod_lt _ (by omega)
          have hss : (i : Int) + (tn : Int) = (s : Int) := by omega
          have hsj : (s : Int).tmod (k : Int) = (j : Int) := by rw [Int.tmod_eq_emod_of_nonneg (by omega), hj]; rfl
          have hjk2 : (j : Int) < (k : Int) := by omega
          have htw : IntKind.i64.wrap (tn : Int) = (tn : Int) := by rw [IntKind.wrap_i64]; omega
          have hsw3 : IntKind.i64.wrap (s : Int) = (s : Int) := by rw [IntKind.wrap_i64]; omega
          have hjL : j < L.length := by omega
          obtain ⟨rb, ro, rfl, q0, q1, q2⟩ := tp_cells L hrdC hl j hjL
          have hxm : L[j]'hjL ∈ L := List.getElem_mem _
          have hgd : L.getD ((i + tn) % k) [] = L[j]'hjL := by rw [← hs, ← hj]; exact getD_at L j hjL
          have hx5 := H50b.out _ hxm
          generalize L[j]'hjL = x at *
          have HXM := Lib.hid hxm
          have HGD := Lib.hid hgd
          have HSS := Lib.hid hs
          have HJJ := Lib.hid hj
          clear hxm hgd hs hj
          have hcX : Ch [] wC (wC.alloc (.cells #[.string (str x), .string (str (x ++ [33])), .bool false] 32)) := (Ch.refl [] wC).alloc _
          have hok := tpair_ok hx5
          have ha := stapply_any (some ⟨wC.heap.size, 0, none⟩) 1 1 [tpair x] (wC.alloc (.cells #[.string (str x), .string (str (x ++ [33])), .bool false] 32)) (hsB.nil hcX) (by have := HUP.out; have := hcX.size; simp; omega) (pairs_block [tpair x] (heap_alloc_new wC _) (by simp [maxLen])) rfl (by omega) (fun q hq => (hok q hq).1) (by omega) (commitP_fit 400 512 a 50 51 [tpair x] hok (by omega) (by simp only [List.length_cons, List.length_nil]; omega))
          have hlen := lenP_le 512 50 51 1 [tpair x] hok (by omega) (by simp)
          rw [← chgs_append] at ha
          have HLE := Lib.hid hlen
          clear hlen hok
          go_wp2_with fail
          refine ha.mono ?_
          rintro e wD ⟨rfl, hsD, hcD⟩
          clear ha
          go_wp2_with fail
          refine ⟨⟨i + 1, _, ps ++ [tpair x], by omega, by go_num, by have := HLE.out; omega, ?_, ?_, hsD, (hch2.trans hcX (by simp)).trans hcD (by simp)⟩, ?_⟩
          · intro p hp
            rcases List.mem_append.1 hp with hp | hp
            · exact HP1.out p hp
            · rw [List.mem_singleton] at hp
              exact ⟨x, HXM.out, hp⟩
          · intro j' hj'
            by_cases h : j' < i
            · exact List.mem_append_left _ (HP2.out j' h)
            · obtain rfl : j' = i := by omega
              rw [HGD.out]
              simp
          · simp [intOf]
            omega
        · obtain rfl : i = k := by omega
          clear hlt2 hi
          have hall : ∀ x ∈ L, tpair x ∈ ps := by
            intro x hx
            obtain ⟨j, hj, rfl⟩ := List.getElem_of_mem hx
            obtain ⟨j', hj', e⟩ := turned_all (t := tn) (show 0 < i by omega) j (by omega)
            have := HP2.out j' hj'
            rwa [e, getD_at L j hj] at this
          obtain ⟨hsame, hkeys⟩ := turned_same H50b.out HP1.out hall
          rw [hsame] at hsB
          have hsA2 := hsA.keep (hch2.mono (by simp))
          clear hsA hall hsame
          generalize hDe : chgs (.map []) (L.map tpair) = D at *
          clear hDe
          have hKA := stkeys_any [] wC hsA2
          rw [keysP_nil] at hKA
          have hqm : (keysL D).length ≤ 3000000 := by
            rw [← size_keysL (strMap_isMap hsB.strMap)]
            obtain ⟨mb, ps2, hh⟩ := hsB
            exact hh.size_le
          obtain ⟨K, hK⟩ : ∃ K, keysL D = K := ⟨_, rfl⟩
          have hKB := fun W (h : Ch [] wC W) => stkeys_any [] W (hsB.nil h)
          rw [keysP_nil] at hKB
          rw [hK] at hKA hKB hkeys hqm
          rw [show str [] = (⟨#[]⟩ : ByteArray) from rfl] at hKA hKB
          have HKY := Lib.hid hkeys
          clear hkeys hK
          go_wp2_with fail
          refine hKA.mono ?_
          rintro e w6 ⟨v6, rfl, hr6, hc6⟩
          clear hKA
          obtain ⟨A6, c6, rfl⟩ := own_slice hr6
          have hKB2 := hKB w6 hc6
          go_wp2_with fail
          refine hKB2.mono ?_
          rintro e w7 ⟨v7, rfl, hr7, hc7⟩
          clear hKB2 hKB
          obtain ⟨A7, c7, rfl⟩ := own_slice hr7
          have hrd6 := (own_rd hr6).keep hc7 (by simp)
          have hrd7 := own_rd hr7
          have hcC7 := hc6.trans hc7 (by simp)
          have hsA7 := hsA2.nil hcC7
          have hsB7 := hsB.nil hcC7
          have hcw7 := hcwC.trans hcC7 (by simp)
          clear hr6 hr7 hsA2 hsB hc6 hc7 hcC7
          generalize hKn : K.length = q at *
          have HKN := Lib.hid hKn
          clear hKn
          have hZA := stsize_any w7 hsA7
          have hZB := fun W (h : Ch [] w7 W) => stsize_any W (hsB7.nil h)
          generalize sizeM D = zz at *
          go_wp2_with fail
          refine hZA.mono ?_
          rintro e w8 ⟨rfl, hc8⟩
          have hZB2 := hZB w8 hc8
          go_wp2_with fail
          refine hZB2.mono ?_
          rintro e w9 ⟨rfl, hc9⟩
          clear hZA hZB hZB2
          have hc79 := hc8.trans hc9 (by simp)
          have hrd6 := hrd6.keep hc79 (by simp)
          have hrd7 := hrd7.keep hc79 (by simp)
          have hsB9 := hsB7.nil hc79
          have hcw9 := hcw7.trans hc79 (by simp)
          clear hsB7 hsA7 hcw7 hc79 hc8 hc9
          go_wp2_with fail
          go_loopw [14] (fun ki wr => ∃ i : Nat, i ≤ q ∧ ki = .int .i64 (i : Int) ∧ Ch [] w9 wr) (fun ki _ => q - (intOf ki).toNat)
          case atStart => exact ⟨0, by omega, rfl, Ch.refl _ _⟩
          case round =>
            obtain ⟨h, hh, rfl, hch3⟩ := hrel
            obtain ⟨wE, hwE⟩ : ∃ W, W = wr := ⟨_, rfl⟩
            subst hwE
            by_cases hlt3 : h < q
            · have hhK : h < K.length := by have := HKN.out; omega
              obtain ⟨kb, ko, rfl, d6⟩ := strs_cell (hrd6.keep hch3 (by simp)) h hhK
              obtain ⟨kb2, ko2, rfl, d7⟩ := strs_cell (hrd7.keep hch3 (by simp)) h hhK
              obtain ⟨y1, y2, y3⟩ := HKY.out _ (List.getElem_mem hhK)
              generalize K[h]'hhK = x at *
              have hgt := stget_any (str x) wE (hsB9.nil hch3) (by rw [str_size]; omega)
              rw [str_data, y1, y2] at hgt
              have hadd := add_mark x (by omega)
              have hn1 := neq_str x x
              have hn2 := neq_str (x ++ [33]) (x ++ [33])
              simp only [decide_true, Bool.not_true] at hn1 hn2
              have hhq : (h : Int) < (q : Int) := by omega
              clear y1 y2 hhK
              go_wp2_with fail
              refine hgt.mono ?_
              rintro e wF ⟨rfl, rfl⟩
              clear hgt
              go_wp2_with fail
              refine dr_begin (by kernel_rfl) ?_
              refine dr_more (fun W => W.cell? ⟨kb, ko + h, none⟩ = some (.string (str x)) ∧ W.cell? ⟨kb2, ko2 + h, none⟩ = some (.string (str x))) ?_
              have hT : True ∧ (wE.drew.cell? ⟨kb, ko + h, none⟩ = some (.string (str x)) ∧ wE.drew.cell? ⟨kb2, ko2 + h, none⟩ = some (.string (str x))) := ⟨trivial, d6, d7⟩
              refine dr_take 0 (some 118) (v := ?_) rfl rfl (by kernel_rfl) (by kernel_rfl) (by kernel_rfl) (fun _ _ _ h => h) rfl hT (fun W _ => ?_) ?_
              rotate_left
              · (go_simp; try with_reducible rfl)
              try simp only [Act.put, List.setIfInBounds_toArray, List.set_cons_zero, List.set_cons_succ]
              refine dr_take 1 (some 119) (v := ?_) rfl rfl (by kernel_rfl) (by kernel_rfl) (by kernel_rfl) (fun _ _ _ h => h) rfl hT (fun W _ => ?_) ?_
              rotate_left
              · (go_simp; try with_reducible rfl)
              try simp only [Act.put, List.setIfInBounds_toArray, List.set_cons_zero, List.set_cons_succ]
              refine dr_take 2 (some 120) (v := ?_) rfl rfl (by kernel_rfl) (by kernel_rfl) (by kernel_rfl) (fun _ _ _ h => h) rfl hT (fun W _ => ?_) ?_
              rotate_left
              · (go_simp; try with_reducible rfl)
              try simp only [Act.put, List.setIfInBounds_toArray, List.set_cons_zero, List.set_cons_succ]
              refine dr_take 3 (some 121) (v := ?_) rfl rfl (by kernel_rfl) (by kernel_rfl) (by kernel_rfl) (fun _ _ _ h => h) rfl hT (fun W hW => ?_) ?_
              rotate_left
              · (have h1 := hW.2.1; go_simp; try with_reducible rfl)
              try simp only [Act.put, List.setIfInBounds_toArray, List.set_cons_zero, List.set_cons_succ]
              refine dr_take 4 (some 122) (v := ?_) rfl rfl (by kernel_rfl) (by kernel_rfl) (by kernel_rfl) (fun _ _ _ h => h) rfl hT (fun W _ => ?_) ?_
              rotate_left
              · (go_simp; try with_reducible rfl)
              try simp only [Act.put, List.setIfInBounds_toArray, List.set_cons_zero, List.set_cons_succ]
              refine dr_take 5 (some 123) (v := ?_) rfl rfl (by kernel_rfl) (by kernel_rfl) (by kernel_rfl) (fun _ _ _ h => h) rfl hT (fun W _ => ?_) ?_
              rotate_left
              · (go_simp; try with_reducible rfl)
              try simp only [Act.put, List.setIfInBounds_toArray, List.set_cons_zero, List.set_cons_succ]
              refine dr_take 6 (some 124) (v := ?_) rfl rfl (by kernel_rfl) (by kernel_rfl) (by kernel_rfl) (fun _ _ _ h => h) rfl hT (fun W _ => ?_) ?_
              rotate_left
              · (go_simp; try with_reducible rfl)
              try simp only [Act.put, List.setIfInBounds_toArray, List.set_cons_zero, List.set_cons_succ]
              refine dr_take 7 (some 125) (v := ?_) rfl rfl (by kernel_rfl) (by kernel_rfl) (by kernel_rfl) (fun _ _ _ h => h) rfl hT (fun W hW => ?_) ?_
              rotate_left
              · (have h1 := hW.2.2; go_simp; try with_reducible rfl)
              try simp only [Act.put, List.setIfInBounds_toArray, List.set_cons_zero, List.set_cons_succ]
              refine dr_take 8 (some 126) (v := ?_) rfl rfl (by kernel_rfl) (by kernel_rfl) (by kernel_rfl) (fun _ _ _ h => h) rfl hT (fun W hW => ?_) ?_
              rotate_left
              · (have h1 := hn1; go_simp; try with_reducible rfl)
              try simp only [Act.put, List.setIfInBounds_toArray, List.set_cons_zero, List.set_cons_succ]
              refine dr_take 9 (some 127) (v := ?_) rfl rfl (by kernel_rfl) (by kernel_rfl) (by kernel_rfl) (fun _ _ _ h => h) rfl hT (fun W _ => ?_) ?_
              rotate_left
              · (go_simp; try with_reducible rfl)
              try simp only [Act.put, List.setIfInBounds_toArray, List.set_cons_zero, List.set_cons_succ]
              refine dr_take 10 (some 128) (v := ?_) rfl rfl (by kernel_rfl) (by kernel_rfl) (by kernel_rfl) (fun _ _ _ h => h) rfl hT (fun W _ => ?_) ?_
              rotate_left
              · (go_simp; try with_reducible rfl)
              try simp only [Act.put, List.setIfInBounds_toArray, List.set_cons_zero, List.set_cons_succ]
              refine dr_take 11 (some 129) (v := ?_) rfl rfl (by kernel_rfl) (by kernel_rfl) (by kernel_rfl) (fun _ _ _ h => h) rfl hT (fun W _ => ?_) ?_
              rotate_left
              · (go_simp; try with_reducible rfl)
              try simp only [Act.put, List.setIfInBounds_toArray, List.set_cons_zero, List.set_cons_succ]
              refine dr_take 12 (some 130) (v := ?_) rfl rfl (by kernel_rfl) (by kernel_rfl) (by kernel_rfl) (fun _ _ _ h => h) rfl hT (fun W _ => ?_) ?_
              rotate_left
              · (go_simp; try with_reducible rfl)
              try simp only [Act.put, List.setIfInBounds_toArray, List.set_cons_zero, List.set_cons_succ]
              refine dr_take 13 (some 131) (v := ?_) rfl rfl (by kernel_rfl) (by kernel_rfl) (by kernel_rfl) (fun _ _ _ h => h) rfl hT (fun W _ => ?_) ?_
              rotate_left
              · (go_simp; try with_reducible rfl)
              try simp only [Act.put, List.setIfInBounds_toArray, List.set_cons_zero, List.set_cons_succ]
              refine dr_take 14 (some 132) (v := ?_) rfl rfl (by kernel_rfl) (by kernel_rfl) (by kernel_rfl) (fun _ _ _ h => h) rfl hT (fun W _ => ?_) ?_
              rotate_left
              · (go_simp; try with_reducible rfl)
              try simp only [Act.put, List.setIfInBounds_toArray, List.set_cons_zero, List.set_cons_succ]
              refine dr_take 15 (some 133) (v := ?_) rfl rfl (by kernel_rfl) (by kernel_rfl) (by kernel_rfl) (fun _ _ _ h => h) rfl hT (fun W _ => ?_) ?_
              rotate_left
              · (go_simp; try with_reducible rfl)
              try simp only [Act.put, List.setIfInBounds_toArray, List.set_cons_zero, List.set_cons_succ]
              refine dr_take 16 (some 134) (v := ?_) rfl rfl (by kernel_rfl) (by kernel_rfl) (by kernel_rfl) (fun _ _ _ h => h) rfl hT (fun W _ => ?_) ?_
              rotate_left
              · (go_simp; try with_reducible rfl)
              try simp only [Act.put, List.setIfInBounds_toArray, List.set_cons_zero, List.set_cons_succ]
              refine dr_take 17 (some 135) (v := ?_) rfl rfl (by kernel_rfl) (by kernel_rfl) (by kernel_rfl) (fun _ _ _ h => h) rfl hT (fun W hW => ?_) ?_
              rotate_left
              · (have h1 := hW.2.1; go_simp; try with_reducible rfl)
              try simp only [Act.put, List.setIfInBounds_toArray, List.set_cons_zero, List.set_cons_succ]
              refine dr_take 18 (some 136) (v := ?_) rfl rfl (by kernel_rfl) (by kernel_rfl) (by kernel_rfl) (fun _ _ _ h => h) rfl hT (fun W hW => ?_) ?_
              rotate_left
              · (have h1 := hW.2.1; go_simp; try with_reducible rfl)
              try simp only [Act.put, List.setIfInBounds_toArray, List.set_cons_zero, List.set_cons_succ]
              refine dr_take 19 (some 137) (v := ?_) rfl rfl (by kernel_rfl) (by kernel_rfl) (by kernel_rfl) (fun _ _ _ h => h) rfl hT (fun W hW => ?_) ?_
              rotate_left
              · (have h1 := hadd; go_simp; try with_reducible rfl)
              try simp only [Act.put, List.setIfInBounds_toArray, List.set_cons_zero, List.set_cons_succ]
              refine dr_take 20 (some 138) (v := ?_) rfl rfl (by kernel_rfl) (by kernel_rfl) (by kernel_rfl) (fun _ _ _ h => h) rfl hT (fun W hW => ?_) ?_
              rotate_left
              · (have h1 := hn2; go_simp; try with_reducible rfl)
              try simp only [Act.put, List.setIfInBounds_toArray, List.set_cons_zero, List.set_cons_succ]
              refine dr_take 21 (some 139) (v := ?_) rfl rfl (by kernel_rfl) (by kernel_rfl) (by kernel_rfl) (fun _ _ _ h => h) rfl hT (fun W _ => ?_) ?_
              rotate_left
              · (go_simp; try with_reducible rfl)
              try simp only [Act.put, List.setIfInBounds_toArray, List.set_cons_zero, List.set_cons_succ]
              refine dr_done (by kernel_rfl) ?_
              go_wp2_with fail
              refine ⟨⟨h + 1, by omega, by go_num, hch3.drew⟩, ?_⟩
              simp [intOf]
              omega
            · obtain rfl : h = q := by omega
              clear hlt3 hh
              go_wp2_with fail
              go_ret
              exact ⟨rfl, hcw9.trans hch3 (by simp)⟩

end Go.Proofs.YtbkncfedahifkaaGreat
