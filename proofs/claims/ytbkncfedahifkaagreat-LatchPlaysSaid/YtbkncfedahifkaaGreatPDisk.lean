/-
  Texts that stand in one: Draw, Draw2, SortedKeys, Disk, Disk2, DRead, DKeys, DWrite, DClear, DSettle, DFlush, DNew, DPlain, Opens, Live.
-/
import Derived.Test.YtbkncfedahifkaaGreatPCode
import Derived.OrdersHeld
import Derived.Deep.RegionHeld
import Derived.Test.YtbkncfedahifkaaGreatLays
import Derived.Maps.OwnSet
import Derived.Maps.Views
import Derived.Deep.RegionWith
import Derived.Deep.Slices
import Derived.Deep.Strs
import Derived.ChangeSame
/-
  A region that draws its order, step by step: an operation that yields its value in every world that may come is taken first; a loud one stands alone.
-/
namespace Go.Proofs.YtbkncfedahifkaaGreat
open Go.RowKit

section
variable {P : Program} {md : Region.Mode} {ops : Array Oper} {Q : Exit → Act → World → Prop} {S : World → Prop} {fuel : Nat} {listed : Array Bool} {a : Act} {w : World}

theorem wpAnyH_imp {S' : World → Prop} (hS : ∀ W, S W → S' W) : ∀ (fuel : Nat) (listed : Array Bool) (a : Act) (w : World), wpAnyH P md ops Q S fuel listed a w → wpAnyH P md ops Q S' fuel listed a w
  | 0, _, _, _, h => h
  | fuel + 1, _, _, _, h => ⟨h.1, fun i hi => wpOp_mono (fun a' w' h' => ⟨hS _ h'.1, wpAnyH_imp hS fuel _ a' w' h'.2⟩) (h.2 i hi)⟩
/-- What holds of all worlds to come may be made more at any time. -/
theorem dr_more (S' : World → Prop) (h : wpAnyH P md ops Q (fun W => S W ∧ S' W) fuel listed a w) : wpAnyH P md ops Q S fuel listed a w := wpAnyH_imp (fun _ h => h.1) _ _ _ _ h
theorem dr_begin {id : Nat} (hm : P.follows .mixedOrders = true)
    (h : wpAnyH P .any ops Q (fun _ => True) ops.size (Array.replicate ops.size false) a w.drew) : (Code.region id ops true).wp P Q a w := wp_region_held hm h
/-- It yields, and is taken first. -/
theorem dr_take (i : Nat) (d : Option Tmp) {oi : Oper} {v : Value} (hi : ops[i]? = some oi) (hd : oi.dst = d) (hs : Region.noSelect ops = true) (hf : Region.free md ops listed i = true) (hr : (Region.ready md ops listed).contains i = true)
    (hQ : ∀ c a w, Q (.panic c) (a.put oi.dst v) w → Q (.panic c) a w) (hw : Region.wanted oi (yielded ops a.tmps) = true) (hS : S w)
    (hy : ∀ W, S W → (execOp a.eval oi).run P W = .ok (.value v) W)
    (h : wpAnyH P md ops Q S fuel (listed.setIfInBounds i true) (a.put d v) w) : wpAnyH P md ops Q S (fuel + 1) listed a w := by
  subst hd
  exact wpAnyH_take hi hs hf hr hQ (.inl ⟨hw, hy⟩) hS h
/-- Its guard says no. -/
theorem dr_skip (i : Nat) (d : Option Tmp) {oi : Oper} (hi : ops[i]? = some oi) (hd : oi.dst = d) (hs : Region.noSelect ops = true) (hf : Region.free md ops listed i = true) (hr : (Region.ready md ops listed).contains i = true)
    (hQ : ∀ c a w, Q (.panic c) (a.put oi.dst undef) w → Q (.panic c) a w) (hw : Region.wanted oi (yielded ops a.tmps) = false) (hS : S w)
    (h : wpAnyH P md ops Q S fuel (listed.setIfInBounds i true) (a.put d undef) w) : wpAnyH P md ops Q S (fuel + 1) listed a w := by
  subst hd
  exact wpAnyH_take hi hs hf hr hQ (.inr ⟨hw, rfl⟩) hS h
/-- It stands alone. -/
theorem dr_step (i : Nat) {oi : Oper} (hi : ops[i]? = some oi) (hr : Region.ready md ops listed = [i]) (hw : Region.wanted oi (yielded ops a.tmps) = true)
    (h : ∀ K : Act → World → Prop, Shut (∀ a' w', S w' → wpAnyH P md ops Q S fuel (listed.setIfInBounds i true) a' w' → K a' w') → oi.wp P a w K Q) : wpAnyH P md ops Q S (fuel + 1) listed a w :=
  wpAnyH_ready hr (by simp) (AllReadyH.cons hi (fun K hK => by rw [if_pos hw]; exact h K (fun a' w' hS hW => hK a' w' hS (fun _ => hW))) AllReadyH.nil)
theorem dr_done (hr : Region.ready md ops listed = []) (h : Q .normal a w) : wpAnyH P md ops Q S fuel listed a w := wpAnyH_done hr h fuel
end

/-! ### comparisons that are decided: as facts on the operation -/
theorem toList_loop (b : ByteArray) : ∀ (n i : Nat) (r : List UInt8), b.size - i = n → ByteArray.toList.loop b i r = r.reverse ++ b.data.toList.drop i := by
  intro n
  induction n with
  | zero =>
    intro i r h
    rw [ByteArray.toList.loop, if_neg (by omega), List.drop_eq_nil_of_le (by show b.data.toList.length ≤ i; rw [Array.length_toList]; exact Nat.le_of_sub_eq_zero h)]
    simp
  | succ n ih =>
    intro i r h
    have hi : i < b.size := by omega
    have hi' : i < b.data.toList.length := by rw [Array.length_toList]; exact hi
    rw [ByteArray.toList.loop, if_pos hi, ih _ _ (by omega), List.drop_eq_getElem_cons hi']
    have e : b.get! i = b.data.toList[i] := by
      show b.data[i]! = _
      rw [getElem!_pos b.data i hi]
      simp
    simp [e]
theorem toList_data (b : ByteArray) : b.toList = b.data.toList := by
  rw [ByteArray.toList, toList_loop b b.size 0 [] (by omega)]
  simp
theorem str_toList (l : List UInt8) : (str l).toList = l := by rw [toList_data]; rfl
theorem eql_str_no (t : TypeId) {x y : ByteArray} (h : x ≠ y) : binOp .eql t (.string x) (.string y) = pure (.bool false) := by
  have e : (x.toList == y.toList) = false := by
    rw [toList_data, toList_data, beq_eq_false_iff_ne]
    intro e
    refine h ?_
    cases x; cases y
    congr 1
    exact Array.ext' e
  rw [binOp_string_eql, e]
theorem eql_str_yes (t : TypeId) (x : ByteArray) : binOp .eql t (.string x) (.string x) = pure (.bool true) := by
  rw [binOp_string_eql, beq_self_eq_true]
theorem eql_int_no (t : TypeId) (k : IntKind) {x y : Int} (h : x ≠ y) : binOp .eql t (.int k x) (.int k y) = pure (.bool false) := by
  rw [binOp_eql, show (x == y) = false from by simpa using h]
theorem eql_int_yes (t : TypeId) (k : IntKind) (x : Int) : binOp .eql t (.int k x) (.int k x) = pure (.bool true) := by
  rw [binOp_eql, beq_self_eq_true]
theorem gtr_int_yes (t : TypeId) (k : IntKind) {x y : Int} (h : y < x) : binOp .gtr t (.int k x) (.int k y) = pure (.bool true) := by
  rw [binOp_gtr, show (decide (x > y)) = true from by simpa using h]
theorem gtr_int_no (t : TypeId) (k : IntKind) {x y : Int} (h : x ≤ y) : binOp .gtr t (.int k x) (.int k y) = pure (.bool false) := by
  rw [binOp_gtr, show (decide (x > y)) = false from by simpa using h]
theorem leq_int_yes (t : TypeId) (k : IntKind) {x y : Int} (h : x ≤ y) : binOp .leq t (.int k x) (.int k y) = pure (.bool true) := by
  rw [binOp_leq, show (decide (x ≤ y)) = true from by simpa using h]

end Go.Proofs.YtbkncfedahifkaaGreat

/-
  A region that draws its order, where two may come up (for a seat without Crash).
-/
set_option linter.unusedVariables false
namespace Go.Proofs.YtbkncfedahifkaaGreat
open Go.RowKit

section
variable {P : Program} {md : Region.Mode} {ops : Array Oper} {Q : Exit → Act → World → Prop} {S : World → Prop} {fuel : Nat} {listed : Array Bool} {a : Act} {w : World}
/-- Two may come up: either. -/
theorem dr_step2 (i j : Nat) {oi oj : Oper} (hi : ops[i]? = some oi) (hj : ops[j]? = some oj) (hr : Region.ready md ops listed = [i, j]) (hwi : Region.wanted oi (yielded ops a.tmps) = true) (hwj : Region.wanted oj (yielded ops a.tmps) = true)
    (h1 : ∀ K : Act → World → Prop, Shut (∀ a' w', S w' → wpAnyH P md ops Q S fuel (listed.setIfInBounds i true) a' w' → K a' w') → oi.wp P a w K Q)
    (h2 : ∀ K : Act → World → Prop, Shut (∀ a' w', S w' → wpAnyH P md ops Q S fuel (listed.setIfInBounds j true) a' w' → K a' w') → oj.wp P a w K Q) : wpAnyH P md ops Q S (fuel + 1) listed a w :=
  wpAnyH_ready hr (by simp) (AllReadyH.cons hi (fun K hK => by rw [if_pos hwi]; exact h1 K (fun a' w' hS hW => hK a' w' hS (fun _ => hW)))
    (AllReadyH.cons hj (fun K hK => by rw [if_pos hwj]; exact h2 K (fun a' w' hS hW => hK a' w' hS (fun _ => hW))) AllReadyH.nil))
end
theorem cut_to {P : Program} (t e : TypeId) {i : TypeInfo} (ht : P.underlying t = some (.slice e)) (hi : P.info? e = some i) (hsz : i.size = 1) (A : Option Addr) (n c m : Nat) (hm : m ≤ n) (hc : n ≤ c) :
    ∃ A' : Option Addr, (∀ W : World, (Instr.slice t (.slice A n c) none (some (.int .i64 (m : Int))) none).run P W = .ok (.slice A' m c) W) ∧
      (∀ (w : World) (xs : List Value), Rd 1 w A n c xs → Rd 1 w A' m c (xs.take m)) := by
  refine ⟨if c = 0 then A else A.map (·.add 0), fun W => ?_, fun w xs h => ?_⟩
  · have hel : P.elem t = e := by simp [Program.elem, ht]
    have hu : P.underlying t = some (.slice (P.elem t)) := by rw [hel]; exact ht
    rw [run_slice_h W t A n c hu .i64 (m : Int) (by omega) (by omega), hel]
    simp [sizeOf, typeInfo, hi, hsz, sliced, Result.andThen]
  · have h2 := h.take m hm
    rw [Nat.mul_one] at h2
    refine ⟨h2.len, h2.cap, h2.max, fun hn => ?_⟩
    obtain ⟨b, o, rfl, hcell⟩ := h2.cells hn
    rw [if_neg (by omega)]
    exact ⟨b, o, by simp [Addr.add_lit], hcell⟩

end Go.Proofs.YtbkncfedahifkaaGreat

/-
  slices.Sorted(maps.Keys(m)) of a map keyed by int: plain contracts.
-/
set_option linter.unusedVariables false
namespace Go.Proofs.YtbkncfedahifkaaGreat
open Go.RowKit Go.Maps Go.Sort Go.Shelf

theorem keys_any (mb : Option Nat) (W : World) : Calls Tryz.prog 177 #[.map mb] W fun e w' => e = .returned (.func (.func 181) #[] #[.pointer (some ⟨W.heap.size, 0, none⟩)]) ∧ w' = W.alloc (.cells #[.map mb] 105) :=
  (callsIn_wide (n := 5)).1 (AnyZI.keys_in Tryz.keysA Fence.wide 5 trivial rfl mb W)

theorem sorted_any {H : Type} (b nn : Nat) (D : DataW H) (R : Value → Option (DataW H × List MemPlace)) (w : World) (hown : w.ownsMap Tryz.prog 3 R b nn D) (hmax : Maps.size D ≤ maxLen) (hbytes : Maps.size D * 8 ≤ 140737488355328) :
    Calls Tryz.prog 165 #[.func (.func 181) #[] #[.pointer (some ⟨w.heap.size, 0, none⟩)]] (w.alloc (.cells #[.map (some b)] 105)) fun e w' => ∃ (v : Value) (ss : List Int), e = .returned v ∧ ss.Perm (intKeys D) ∧
      w'.ownsRow (w.heap.size + 1) 3 1 v ss.length ((ss.mergeSort (fun x y => decide (x ≤ y))).map encZ) ∧ Below (w.heap.size + 1) (w.alloc (.cells #[.map (some b)] 105)) w' := by
  have hbl := hown.lt
  have hseq : SeqGives Fence.wide 2 Tryz.prog 181 #[.pointer (some ⟨w.heap.size, 0, none⟩)] encZ (fun ss => ss.Perm (intKeys D)) (Maps.size D) (w.alloc (.cells #[.map (some b)] 105)) :=
    AnyZI.keys_gives (ρ := Tryz.keysA_ren) { Tryz.keysA with } Fence.wide _ trivial rfl (by omega) w.heap.size b nn D _ (by simp) (by simp) (by
      obtain ⟨es, clock, hb, Ft, hs, hD⟩ := hown
      exact ⟨es, clock, (Below.heap_alloc _ _ b hbl).trans hb, Ft, hs, hD⟩)
  have cS := AnyZI.sorted_in Tryz.sortedA Fence.wide 5 trivial trivial trivial trivial rfl (by omega) (Tryz.sortsA _) (enters_of Tryz.func175 (by kernel_rfl) rfl) 181 #[.pointer (some ⟨w.heap.size, 0, none⟩)] trivial (enters_of Tryz.func181 (by kernel_rfl) rfl) _ _ hmax hbytes _ hseq
  refine ((callsIn_wide (n := 5)).1 cS).mono ?_
  rintro e w' ⟨v, ss, rfl, hS, hrow, _, hb⟩
  refine ⟨v, ss, rfl, hS, ?_, ?_⟩
  · have e1 : (w.alloc (.cells #[.map (some b)] 105)).heap.size = w.heap.size + 1 := by simp
    rw [← e1]
    exact hrow
  · have e1 : (w.alloc (.cells #[.map (some b)] 105)).heap.size = w.heap.size + 1 := by simp
    rw [← e1]
    exact hb

end Go.Proofs.YtbkncfedahifkaaGreat

/-
  Package disk: what a disk is; within, Sectors, Size, at, powered, Dead, Cut.
-/
set_option linter.unusedVariables false
namespace Go.Proofs.YtbkncfedahifkaaGreat
open Go.RowKit Go.Maps

/-- A disk, as the document speaks of it. -/
structure Dsk where
  sz : Nat
  sure : List (List UInt8)
  dirty : Nat → Option (List UInt8)
  cut : Int
  dead : Bool

/-- A map's element reads as itself. -/
def selfR (v : Value) : Option (DataW Value × List MemPlace) := some (.held v, [])
def ikey (i : Nat) : Lit := .int .i64 (i : Int)

/-- A sector's bytes, in a block that is none of F. -/
def SecV (w : World) (F : List Nat) (sz : Nat) (v : Value) (l : List UInt8) : Prop :=
  ∃ A c, v = .slice A sz c ∧ RdB w A sz c l ∧ ∀ a, A = some a → a.block ∉ F
theorem SecV.keep {w w' : World} {F G : List Nat} {sz : Nat} {v : Value} {l : List UInt8} (h : SecV w F sz v l) (hc : Ch G w w') (hG : ∀ x ∈ G, x ∈ F) : SecV w' F sz v l := by
  obtain ⟨A, c, rfl, h1, h2⟩ := h
  exact ⟨A, c, rfl, h1.keep hc (fun a ha hg => h2 a ha (hG _ hg)), h2⟩
theorem SecV.sub {w : World} {F G : List Nat} {sz : Nat} {v : Value} {l : List UInt8} (h : SecV w F sz v l) (hG : ∀ x ∈ G, x ∈ F) : SecV w G sz v l := by
  obtain ⟨A, c, rfl, h1, h2⟩ := h
  exact ⟨A, c, rfl, h1, fun a ha hg => h2 a ha (hG _ hg)⟩
theorem SecV.add {w : World} {F : List Nat} {sz x : Nat} {v : Value} {l : List UInt8} (h : SecV w F sz v l) (hsz : 0 < sz) (hx : w.heap.size ≤ x) : SecV w (x :: F) sz v l := by
  obtain ⟨A, c, rfl, h1, h2⟩ := h
  refine ⟨A, c, rfl, h1, fun a ha hg => ?_⟩
  rcases List.mem_cons.1 hg with e | hg
  · obtain ⟨b, o, e2, hc⟩ := h1.cell hsz
    rw [e2] at ha
    injection ha with ha
    subst ha
    have := World.block_lt_of_cell? w _ (hc 0 (by rw [h1.length]; exact hsz))
    simp only at this e
    omega
  · exact h2 a ha hg
theorem SecV.length {w : World} {F : List Nat} {sz : Nat} {v : Value} {l : List UInt8} (h : SecV w F sz v l) : l.length = sz := by
  obtain ⟨A, c, rfl, h1, h2⟩ := h
  exact h1.length

/-- A disk at block b, its row of sure sectors in block g, its map in block m; none of its blocks is of X. -/
structure DiskAt (w : World) (b g m : Nat) (X : List Nat) (d : Dsk) (c : Nat) (vs : List Value) (D : DataW Value) : Prop where
  cells : w.heap[b]? = some (.cells #[.slice (some ⟨g, 0, none⟩) d.sure.length c, .map (some m), .int .i64 d.cut, .bool d.dead] 109 (0, 0))
  row : w.ownsRow 0 45 1 (.slice (some ⟨g, 0, none⟩) d.sure.length c) d.sure.length vs
  map : w.ownsMap Tryz.prog 3 selfR m d.sure.length D
  sureV : ∀ (i : Nat) (h : i < d.sure.length), ∃ v, vs[i]? = some v ∧ SecV w (b :: g :: m :: X) d.sz v d.sure[i]
  keys : ∀ k : Int, has D (.int .i64 k) = true → ∃ i : Nat, k = (i : Int) ∧ i < d.sure.length
  none_ : ∀ i : Nat, i < d.sure.length → d.dirty i = none → has D (ikey i) = false
  some_ : ∀ (i : Nat) (l : List UInt8), i < d.sure.length → d.dirty i = some l → has D (ikey i) = true ∧ ∃ v, (∀ z, D.atKey (ikey i) z = .held v) ∧ SecV w (b :: g :: m :: X) d.sz v l
  sz0 : 64 ≤ d.sz
  sz1 : d.sz ≤ 4096
  n0 : 1 ≤ d.sure.length
  n1 : d.sure.length ≤ 4096
  cut0 : -1 ≤ d.cut
  cut1 : d.cut ≤ 9223372036854775807
  bg : b ≠ g
  bX : b ∉ X
  gX : g ∉ X
  mX : m ∉ X
def IsDisk (w : World) (b g m : Nat) (X : List Nat) (d : Dsk) : Prop := ∃ c vs D, DiskAt w b g m X d c vs D

section
variable {w : World} {b g m : Nat} {X : List Nat} {d : Dsk} {c : Nat} {vs : List Value} {D : DataW Value}
theorem DiskAt.bm (h : DiskAt w b g m X d c vs D) : b ≠ m := by
  rintro rfl
  obtain ⟨es, clock, hb, _⟩ := h.map
  rw [h.cells] at hb
  simp at hb
theorem DiskAt.gm (h : DiskAt w b g m X d c vs D) : g ≠ m := by
  rintro rfl
  obtain ⟨es, clock, hb, _⟩ := h.map
  rcases h.row.2 with ⟨e, _⟩ | ⟨g', cap, cur, e, _, hh, _⟩
  · cases e
  · simp only [Value.slice.injEq, Option.some.injEq, Addr.mk.injEq] at e
    obtain ⟨⟨rfl, _⟩, _⟩ := e
    rw [hb] at hh
    simp at hh
theorem DiskAt.blt (h : DiskAt w b g m X d c vs D) : b < w.heap.size := lt_of_at h.cells
theorem DiskAt.glt (h : DiskAt w b g m X d c vs D) : g < w.heap.size := own_lt h.row g rfl
theorem DiskAt.mlt (h : DiskAt w b g m X d c vs D) : m < w.heap.size := h.map.lt
/-- Whatever turns of X alone leaves a disk as it is. -/
theorem DiskAt.keep {w' : World} (h : DiskAt w b g m X d c vs D) (hc : Ch X w w') : DiskAt w' b g m X d c vs D :=
  { h with
    cells := hc.at_ h.cells h.bX
    row := own_keep h.row hc (by intro k hk; cases hk; exact h.gX)
    map := by
      obtain ⟨es, clock, hb, F, hs, hD⟩ := h.map
      exact ⟨es, clock, hc.at_ hb h.mX, F, hs, hD⟩
    sureV := fun i hi => by
      obtain ⟨v, h1, h2⟩ := h.sureV i hi
      exact ⟨v, h1, h2.keep hc (by simp; intro x hx; exact .inr (.inr (.inr hx)))⟩
    some_ := fun i l hi hl => by
      obtain ⟨h0, v, h1, h2⟩ := h.some_ i l hi hl
      exact ⟨h0, v, h1, h2.keep hc (by simp; intro x hx; exact .inr (.inr (.inr hx)))⟩ }
theorem IsDisk.keep {w' : World} (h : IsDisk w b g m X d) (hc : Ch X w w') : IsDisk w' b g m X d := by
  obtain ⟨c, vs, D, h⟩ := h
  exact ⟨c, vs, D, h.keep hc⟩
theorem IsDisk.nil {w' : World} (h : IsDisk w b g m X d) (hc : Ch [] w w') : IsDisk w' b g m X d := h.keep (hc.mono (by simp))
theorem IsDisk.add (h : IsDisk w b g m X d) {x : Nat} (hx : w.heap.size ≤ x) : IsDisk w b g m (x :: X) d := by
  obtain ⟨c, vs, D, h⟩ := h
  have h1 := h.blt
  have h2 := h.glt
  have h3 := h.mlt
  have hz : 0 < d.sz := by have := h.sz0; omega
  have perm : ∀ {v l}, SecV w (b :: g :: m :: X) d.sz v l → SecV w (b :: g :: m :: x :: X) d.sz v l := fun hv =>
    (hv.add hz hx).sub (by intro y hy; simp only [List.mem_cons] at hy ⊢; rcases hy with e | e | e | e | e <;> simp [e])
  exact ⟨c, vs, D, { h with
    sureV := fun i hi => by
      obtain ⟨v, q1, q2⟩ := h.sureV i hi
      exact ⟨v, q1, perm q2⟩
    some_ := fun i l hi hl => by
      obtain ⟨q0, v, q1, q2⟩ := h.some_ i l hi hl
      exact ⟨q0, v, q1, perm q2⟩
    bX := by simp only [List.mem_cons, not_or]; exact ⟨by omega, h.bX⟩
    gX := by simp only [List.mem_cons, not_or]; exact ⟨by omega, h.gX⟩
    mX := by simp only [List.mem_cons, not_or]; exact ⟨by omega, h.mX⟩ }⟩
/-- A sure sector's cell. -/
theorem DiskAt.sure_cell (h : DiskAt w b g m X d c vs D) (i : Nat) (hi : i < d.sure.length) : ∃ A ca, w.cell? ⟨g, i, none⟩ = some (.slice A d.sz ca) ∧ RdB w A d.sz ca d.sure[i] ∧ ∀ a, A = some a → a.block ∉ b :: g :: m :: X := by
  obtain ⟨v, h1, A, ca, rfl, h2, h3⟩ := h.sureV i hi
  obtain ⟨b', o', e, hc⟩ := (own_rd h.row).cells (by omega)
  injection e with e
  injection e with e1 e2
  subst e1 e2
  exact ⟨A, ca, by have := hc i _ h1; rwa [Nat.zero_add] at this, h2, h3⟩
end

/-! ### within, Sectors, Size, Dead -/
theorem within_any (x lo hi : Int) (w : World) : Calls Tryz.prog 50 #[.int .i64 x, .int .i64 lo, .int .i64 hi] w fun e w' => e = .returned (.int .i64 (min (max x lo) hi)) ∧ w = w' := by
  go_enter Tryz.func50, Tryz.ntmps50
  go_wp2
  go_ret
  exact ⟨rfl, rfl⟩

theorem sectors_any (b g m : Nat) (X : List Nat) (d : Dsk) (w : World) (h : IsDisk w b g m X d) : Calls Tryz.prog 74 #[.pointer (some ⟨b, 0, none⟩)] w fun e w' => e = .returned (.int .i64 (d.sure.length : Int)) ∧ w = w' := by
  obtain ⟨c, vs, D, h⟩ := h
  have h0 := cell_at h.cells 0 rfl
  go_enter Tryz.func74, Tryz.ntmps74
  go_wp2
  go_ret
  exact ⟨rfl, rfl⟩
theorem size_any (b g m : Nat) (X : List Nat) (d : Dsk) (w : World) (h : IsDisk w b g m X d) : Calls Tryz.prog 75 #[.pointer (some ⟨b, 0, none⟩)] w fun e w' => e = .returned (.int .i64 (d.sz : Int)) ∧ w = w' := by
  obtain ⟨c, vs, D, h⟩ := h
  have h0 := cell_at h.cells 0 rfl
  have hn := h.n0
  obtain ⟨A, ca, h1, _⟩ := h.sure_cell 0 (by omega)
  go_enter Tryz.func75, Tryz.ntmps75
  go_wp2
  go_ret
  exact ⟨rfl, rfl⟩

end Go.Proofs.YtbkncfedahifkaaGreat

/-
  Package disk: at, powered, Cut, Read.
-/
set_option linter.unusedVariables false
namespace Go.Proofs.YtbkncfedahifkaaGreat
open Go.RowKit Go.Maps

section
variable {w : World} {b g m : Nat} {X : List Nat} {d : Dsk} {c : Nat} {vs : List Value} {D : DataW Value}
/-- What turns block b alone, and leaves sectors and map. -/
theorem DiskAt.turnB {w' : World} {d' : Dsk} (h : DiskAt w b g m X d c vs D) (hc : Ch [b] w w') (hz : d'.sz = d.sz) (hs : d'.sure = d.sure) (hd : d'.dirty = d.dirty) (c0 : -1 ≤ d'.cut) (c1 : d'.cut ≤ 9223372036854775807)
    (hcell : w'.heap[b]? = some (.cells #[.slice (some ⟨g, 0, none⟩) d.sure.length c, .map (some m), .int .i64 d'.cut, .bool d'.dead] 109 (0, 0))) : DiskAt w' b g m X d' c vs D := by
  have hbg := h.bg
  have hbm := h.bm
  constructor
  · rw [hs]; exact hcell
  · rw [hs]; exact own_keep h.row hc (by intro k hk; cases hk; simpa using fun e => hbg e.symm)
  · rw [hs]
    obtain ⟨es, clock, hb, F, hsz, hD⟩ := h.map
    exact ⟨es, clock, hc.at_ hb (by simpa using fun e => hbm e.symm), F, hsz, hD⟩
  · intro i hi
    simp only [hs] at hi ⊢
    obtain ⟨v, q1, q2⟩ := h.sureV i hi
    rw [hz]
    exact ⟨v, q1, q2.keep hc (by simp)⟩
  · rw [hs]; exact h.keys
  · rw [hs, hd]; exact h.none_
  · rw [hs, hd, hz]
    intro i l hi hl
    obtain ⟨q0, v, q1, q2⟩ := h.some_ i l hi hl
    exact ⟨q0, v, q1, q2.keep hc (by simp)⟩
  · rw [hz]; exact h.sz0
  · rw [hz]; exact h.sz1
  · rw [hs]; exact h.n0
  · rw [hs]; exact h.n1
  · exact c0
  · exact c1
  · exact hbg
  · exact h.bX
  · exact h.gX
  · exact h.mX
theorem DiskAt.setCut (h : DiskAt w b g m X d c vs D) (n : Int) (h0 : -1 ≤ n) (h1 : n ≤ 9223372036854775807) : DiskAt (w.setCell ⟨b, 2, none⟩ (.int .i64 n)) b g m X { d with cut := n } c vs D :=
  h.turnB ((Ch.refl _ _).setCell _ _ (by simp)) rfl rfl rfl h0 h1 (by have := heap_setCell_same w b 2 _ 109 (.int .i64 n) h.cells; simpa using this)
theorem DiskAt.setDead (h : DiskAt w b g m X d c vs D) (x : Bool) : DiskAt (w.setCell ⟨b, 3, none⟩ (.bool x)) b g m X { d with dead := x } c vs D :=
  h.turnB ((Ch.refl _ _).setCell _ _ (by simp)) rfl rfl rfl h.cut0 h.cut1 (by have := heap_setCell_same w b 3 _ 109 (.bool x) h.cells; simpa using this)
end

def Dsk.at_ (d : Dsk) (i : Int) : Int := if d.dead then 32 else if i < 0 ∨ (d.sure.length : Int) ≤ i then 30 else 0
theorem at_any (b g m : Nat) (X : List Nat) (d : Dsk) (i : Int) (w : World) (h : IsDisk w b g m X d) : Calls Tryz.prog 164 #[.pointer (some ⟨b, 0, none⟩), .int .i64 i] w fun e w' => e = .returned (.int .i64 (d.at_ i)) ∧ w = w' := by
  obtain ⟨c, vs, D, h⟩ := h
  have h0 := cell_at h.cells 0 rfl
  have h3 := cell_at h.cells 3 rfl
  obtain ⟨sz, sure, dirty, cut, dead⟩ := d
  simp only at h0 h3
  cases dead
  · by_cases hi : i < 0
    · have e : (Dsk.mk sz sure dirty cut false).at_ i = 30 := by simp [Dsk.at_, hi]
      rw [e]
      go_enter Tryz.func164, Tryz.ntmps164
      go_wp2
      go_ret
      exact ⟨rfl, rfl⟩
    · by_cases hn : (sure.length : Int) ≤ i
      · have e : (Dsk.mk sz sure dirty cut false).at_ i = 30 := by simp [Dsk.at_, hn]
        rw [e]
        go_enter Tryz.func164, Tryz.ntmps164
        go_wp2
        go_ret
        exact ⟨rfl, rfl⟩
      · have e : (Dsk.mk sz sure dirty cut false).at_ i = 0 := by simp [Dsk.at_]; omega
        rw [e]
        go_enter Tryz.func164, Tryz.ntmps164
        go_wp2
        go_ret
        exact ⟨rfl, rfl⟩
  · have e : (Dsk.mk sz sure dirty cut true).at_ i = 32 := by simp [Dsk.at_]
    rw [e]
    go_enter Tryz.func164, Tryz.ntmps164
    go_wp2
    go_ret
    exact ⟨rfl, rfl⟩

/-- Power for one more. -/
def Dsk.power (d : Dsk) : Dsk × Bool := if d.cut = 0 then ({ d with dead := true }, false) else if 0 < d.cut then ({ d with cut := d.cut - 1 }, true) else (d, true)
def errIf (ok : Bool) : Int := if ok then 0 else 32
theorem powered_any (b g m : Nat) (X : List Nat) (d : Dsk) (w : World) (h : IsDisk w b g m X d) : Calls Tryz.prog 167 #[.pointer (some ⟨b, 0, none⟩)] w fun e w' => e = .returned (.int .i64 (errIf d.power.2)) ∧ IsDisk w' b g m X d.power.1 ∧ Ch [b] w w' := by
  obtain ⟨c, vs, D, h⟩ := h
  have h2 := cell_at h.cells 2 rfl
  have h3 := cell_at h.cells 3 rfl
  have hf2 := free_at h.cells 2
  have hf3 := free_at h.cells 3
  by_cases h0 : d.cut = 0
  · have e : d.power = ({ d with dead := true }, false) := by simp [Dsk.power, h0]
    rw [e]
    have hz : (d.cut == 0) = true := by rw [beq_iff_eq]; exact h0
    have hs := h.setDead true
    clear h0
    go_enter Tryz.func167, Tryz.ntmps167
    go_wp2
    go_ret
    exact ⟨rfl, ⟨c, vs, D, hs⟩, (Ch.refl _ _).setCell _ _ (by simp)⟩
  · have hz : (d.cut == 0) = false := by rw [beq_eq_false_iff_ne]; exact h0
    by_cases hp : 0 < d.cut
    · have e : d.power = ({ d with cut := d.cut - 1 }, true) := by simp [Dsk.power, h0, hp]
      rw [e]
      have hc1 := h.cut1
      have hs := h.setCut (d.cut - 1) (by omega) (by omega)
      go_enter Tryz.func167, Tryz.ntmps167
      go_wp2
      go_ret
      exact ⟨rfl, ⟨c, vs, D, hs⟩, (Ch.refl _ _).setCell _ _ (by simp)⟩
    · have e : d.power = (d, true) := by simp [Dsk.power, h0, hp]
      rw [e]
      go_enter Tryz.func167, Tryz.ntmps167
      go_wp2
      go_ret
      exact ⟨rfl, ⟨c, vs, D, h⟩, Ch.refl _ _⟩

end Go.Proofs.YtbkncfedahifkaaGreat

/-
  Package disk: Read.
-/
set_option linter.unusedVariables false
namespace Go.Proofs.YtbkncfedahifkaaGreat
open Go.RowKit Go.Maps

/-- A sector, as it is read. -/
def Dsk.read (d : Dsk) (i : Nat) : List UInt8 := (d.dirty i).getD (d.sure.getD i [])

theorem ikeyed : Keyed Tryz.prog 3 := int_keyed Tryz.underlying3
theorem ikey_mk (i : Nat) (h : i ≤ 4096) : keyOf Tryz.prog 3 (.int .i64 (i : Int)) = some (ikey i) :=
  keyOf_int_mk Tryz.underlying3 (by simp [Lit.wf, IntKind.min, IntKind.max, IntKind.signed, IntKind.bits]; omega)

section
variable {w : World} {b g m : Nat} {X : List Nat} {d : Dsk} {c : Nat} {vs : List Value} {D : DataW Value}
/-- What is written and not yet sure, looked up. -/
theorem DiskAt.look (h : DiskAt w b g m X d c vs D) (i : Nat) (hi : i < d.sure.length) :
    match d.dirty i with
    | some l => ∃ v, (Instr.lookup 105 (.map (some m)) (.int .i64 (i : Int)) true).run Tryz.prog w = .ok (.tuple #[v, .bool true]) w ∧ SecV w (b :: g :: m :: X) d.sz v l
    | none => ∃ v, (Instr.lookup 105 (.map (some m)) (.int .i64 (i : Int)) true).run Tryz.prog w = .ok (.tuple #[v, .bool false]) w := by
  have hn := h.n1
  have hz : (zeroValue 45).run Tryz.prog w = .ok (.slice none 0 0) w := by simp [Tryz.zeroValue45]
  obtain ⟨v, ps, hrun, hat⟩ := h.map.look_ok ikeyed Tryz.underlying105 hz rfl (ikey_mk i (by omega))
  cases hd : d.dirty i with
  | none =>
    have hh := h.none_ i hi hd
    rw [hh] at hrun
    exact ⟨v, hrun⟩
  | some l =>
    obtain ⟨hh, v', hv', hs⟩ := h.some_ i l hi hd
    rw [hh] at hrun
    rw [hv'] at hat
    simp only [selfR, Option.some.injEq, Prod.mk.injEq, DataW.held.injEq] at hat
    obtain ⟨rfl, _⟩ := hat
    exact ⟨v, hrun, hs⟩
end

set_option maxRecDepth 100000 in
theorem read_bad (b g m : Nat) (X : List Nat) (d : Dsk) (i : Int) (w : World) (h : IsDisk w b g m X d) (he : d.at_ i ≠ 0) :
    Calls Tryz.prog 142 #[.pointer (some ⟨b, 0, none⟩), .int .i64 i] w fun e w' => e = .returned (.tuple #[.slice none 0 0, .int .i64 (d.at_ i)]) ∧ w = w' := by
  have hne : (d.at_ i != 0) = true := by simpa using he
  generalize hx : d.at_ i = x at *
  go_enter Tryz.func142, Tryz.ntmps142
  go_wp2_with fail
  refine (at_any b g m X d i w h).mono ?_
  rintro e w1 ⟨rfl, rfl⟩
  rw [hx]
  go_wp2_with fail
  go_ret2
  exact ⟨rfl, rfl⟩

set_option maxRecDepth 100000 in
theorem read_any (b g m : Nat) (X : List Nat) (d : Dsk) (i : Nat) (w : World) (h : IsDisk w b g m X d) (he : d.at_ i = 0) :
    Calls Tryz.prog 142 #[.pointer (some ⟨b, 0, none⟩), .int .i64 (i : Int)] w fun e w' => ∃ v, e = .returned (.tuple #[v, .int .i64 0]) ∧ OwnB w.heap.size (d.read i) w' v ∧ Ch [] w w' := by
  have hi : i < d.sure.length := by
    unfold Dsk.at_ at he
    split at he
    · cases he
    · split at he
      · cases he
      · omega
  have ha := at_any b g m X d i w h
  rw [he] at ha
  obtain ⟨c, vs, D, h⟩ := h
  have h0 := cell_at h.cells 0 rfl
  have h1 := cell_at h.cells 1 rfl
  have hz1 := h.sz1
  have hl := h.look i hi
  cases hd : d.dirty i with
  | some l =>
    rw [hd] at hl
    obtain ⟨v, hrun, A, ca, rfl, hrd, _⟩ := hl
    have hr : d.read i = l := by simp [Dsk.read, hd]
    rw [hr]
    go_enter Tryz.func142, Tryz.ntmps142
    go_wp2_with fail
    refine ha.mono ?_
    rintro e w1 ⟨rfl, rfl⟩
    go_wp2_with fail
    refine (clone_bytes A _ ca l w hrd (by omega)).mono ?_
    rintro e w1 ⟨v, rfl, hv, hc⟩
    go_wp2_with fail
    go_ret2
    exact ⟨v, rfl, hv, hc⟩
  | none =>
    rw [hd] at hl
    obtain ⟨v, hrun⟩ := hl
    have hr : d.read i = d.sure[i] := by simp [Dsk.read, hd, List.getD, hi]
    rw [hr]
    obtain ⟨A, ca, hcell, hrd, _⟩ := h.sure_cell i hi
    go_enter Tryz.func142, Tryz.ntmps142
    go_wp2_with fail
    refine ha.mono ?_
    rintro e w1 ⟨rfl, rfl⟩
    go_wp2_with fail
    refine (clone_bytes A _ ca _ w hrd (by omega)).mono ?_
    rintro e w1 ⟨v, rfl, hv, hc⟩
    go_wp2_with fail
    go_ret2
    exact ⟨v, rfl, hv, hc⟩

end Go.Proofs.YtbkncfedahifkaaGreat

/-
  Package disk: the written sectors' numbers, in order; a sector written.
-/
set_option linter.unusedVariables false
namespace Go.Proofs.YtbkncfedahifkaaGreat
open Go.RowKit Go.Maps

/-- The numbers of the sectors that are not yet sure, in order. -/
def Dsk.idx (d : Dsk) : List Nat := (List.range d.sure.length).filter fun i => (d.dirty i).isSome
def zs (l : List Nat) : List Int := l.map fun (i : Nat) => (i : Int)
theorem Dsk.idx_lt (d : Dsk) : ∀ i ∈ d.idx, i < d.sure.length ∧ ∃ l, d.dirty i = some l := by
  intro i hi
  simp only [Dsk.idx, List.mem_filter, List.mem_range] at hi
  exact ⟨hi.1, Option.isSome_iff_exists.1 hi.2⟩
theorem Dsk.idx_pair (d : Dsk) : d.idx.Pairwise (· < ·) := List.Pairwise.filter _ List.pairwise_lt_range
theorem Dsk.idx_len (d : Dsk) : d.idx.length ≤ d.sure.length := by
  have := List.length_filter_le (fun i => (d.dirty i).isSome) (List.range d.sure.length)
  rw [List.length_range] at this
  exact this
theorem zs_nodup {l : List Nat} (h : l.Pairwise (· < ·)) : (zs l).Nodup := by
  unfold zs
  refine List.pairwise_map.2 (h.imp ?_)
  intro a b hab e
  omega
theorem zs_sorted {l : List Nat} (h : l.Pairwise (· < ·)) : (zs l).mergeSort leI = zs l := by
  refine List.mergeSort_of_pairwise ?_
  unfold zs
  refine List.pairwise_map.2 (h.imp ?_)
  intro a b hab
  simp [leI]
  omega

section
variable {w : World} {b g m : Nat} {X : List Nat} {d : Dsk} {c : Nat} {vs : List Value} {D : DataW Value}
theorem DiskAt.has_iff (h : DiskAt w b g m X d c vs D) (x : Int) : has D (.int .i64 x) = true ↔ x ∈ zs d.idx := by
  constructor
  · intro hh
    obtain ⟨i, rfl, hi⟩ := h.keys x hh
    cases hd : d.dirty i with
    | none => have := h.none_ i hi hd; rw [ikey, hh] at this; cases this
    | some l => exact List.mem_map.2 ⟨i, by simp [Dsk.idx, hi, hd], rfl⟩
  · intro hx
    obtain ⟨i, hi, rfl⟩ := List.mem_map.1 hx
    obtain ⟨hi, l, hl⟩ := d.idx_lt i hi
    exact (h.some_ i l hi hl).1
theorem map_keys {n N : Nat} {D : DataW Value} {l : List Nat} (hown : w.ownsMap Tryz.prog 3 selfR m N D) (hl : l.Pairwise (· < ·)) (hi : ∀ x : Int, has D (.int .i64 x) = true ↔ x ∈ zs l) : (zs l).Perm (intKeys D) :=
  CollectedI.perm (left := fun _ => false) ⟨zs_nodup hl, fun x => by rw [hi x]; simp⟩ hown ikeyed Tryz.underlying3 (fun _ => rfl)
theorem DiskAt.perm (h : DiskAt w b g m X d c vs D) : (zs d.idx).Perm (intKeys D) := map_keys (n := 0) h.map d.idx_pair h.has_iff
theorem size_keys {D : DataW Value} {n : Nat} {l : List Nat} (h : IsMap D) (hp : (zs l).Perm (intKeys D)) : Maps.size D = l.length := by
  obtain ⟨es, rfl⟩ := h
  have := hp.length_eq
  simp only [zs, intKeys, List.length_map] at this
  rw [size_eq, this]
theorem DiskAt.size (h : DiskAt w b g m X d c vs D) : Maps.size D = d.idx.length := size_keys (n := 0) h.map.isMap h.perm
/-- No more entries than its size. -/
theorem ownsMap_tight {N : Nat} (h : w.ownsMap Tryz.prog 3 selfR m N D) {n : Nat} (hs : Maps.size D ≤ n) : w.ownsMap Tryz.prog 3 selfR m n D := by
  obtain ⟨es, clock, hb, F, hsz, rfl⟩ := h
  refine ⟨es, clock, hb, F, ?_, rfl⟩
  rw [size_eq, length_read] at hs
  exact hs
end

/-- Sector i written. -/
def Dsk.put (d : Dsk) (i : Nat) (l : List UInt8) : Dsk := { d with dirty := fun j => if j = i then some l else d.dirty j }
theorem ikey_ne {i j : Nat} (h : i ≠ j) : ikey i ≠ ikey j := by
  intro e
  simp only [ikey, Lit.int.injEq, true_and] at e
  omega
theorem ikey_key (i : Nat) : WideAt.IsKeyLit (ikey i) := by unfold ikey; trivial

section
variable {w w' : World} {b g m : Nat} {X : List Nat} {d : Dsk} {c : Nat} {vs : List Value} {D : DataW Value}
theorem DiskAt.write (h : DiskAt w b g m X d c vs D) (i : Nat) (hi : i < d.sure.length) (l : List UInt8) (v : Value) (hv : SecV w' (b :: g :: m :: X) d.sz v l) {N : Nat}
    (hm : w'.ownsMap Tryz.prog 3 selfR m N (D.put (ikey i) (.held v))) (hg : w.grownBy w' (some m)) : DiskAt w' b g m X (d.put i l) c vs (D.put (ikey i) (.held v)) := by
  have hbm := h.bm
  have hgm := h.gm
  have hc : Ch [m] w w' := (Ch.refl _ _).grown hg (by intro k hk; cases hk; exact .inl (by simp))
  have hD := h.map.isMap
  have hkeys : ∀ k : Int, has (D.put (ikey i) (.held v)) (.int .i64 k) = true → ∃ j : Nat, k = (j : Int) ∧ j < d.sure.length := by
    intro k hk
    by_cases e : k = (i : Int)
    · exact ⟨i, e, hi⟩
    · rw [has_put_other (by simpa [ikey] using e)] at hk
      exact h.keys k hk
  have hnone : ∀ j : Nat, j < d.sure.length → (d.put i l).dirty j = none → has (D.put (ikey i) (.held v)) (ikey j) = false := by
    intro j hj hd
    simp only [Dsk.put] at hd
    split at hd
    · cases hd
    · rename_i hne
      rw [has_put_other (ikey_ne hne)]
      exact h.none_ j hj hd
  have hsome : ∀ (j : Nat) (q : List UInt8), j < d.sure.length → (d.put i l).dirty j = some q → has (D.put (ikey i) (.held v)) (ikey j) = true ∧ ∃ v', (∀ z, (D.put (ikey i) (.held v)).atKey (ikey j) z = .held v') ∧ SecV w' (b :: g :: m :: X) d.sz v' q := by
    intro j q hj hd
    simp only [Dsk.put] at hd
    split at hd
    · rename_i e
      subst e
      simp only [Option.some.injEq] at hd
      subst hd
      exact ⟨has_put_same hD (ikey_key j) _, v, fun z => atKey_put_same hD (ikey_key j) _ z, hv⟩
    · rename_i hne
      obtain ⟨q0, v', q1, q2⟩ := h.some_ j q hj hd
      exact ⟨by rw [has_put_other (ikey_ne hne)]; exact q0, v', fun z => by rw [atKey_put_other (ikey_ne hne)]; exact q1 z, q2.keep hc (by simp)⟩
  have hiff : ∀ x : Int, has (D.put (ikey i) (.held v)) (.int .i64 x) = true ↔ x ∈ zs (d.put i l).idx := by
    intro x
    constructor
    · intro hh
      obtain ⟨j, rfl, hj⟩ := hkeys x hh
      cases hd : (d.put i l).dirty j with
      | none => have h2 := hnone j hj hd; exact absurd (hh.symm.trans h2) (by simp)
      | some q => exact List.mem_map.2 ⟨j, by simp only [Dsk.idx, List.mem_filter, List.mem_range, hd]; exact ⟨hj, rfl⟩, rfl⟩
    · intro hx
      obtain ⟨j, hj, rfl⟩ := List.mem_map.1 hx
      obtain ⟨hj, q, hq⟩ := (d.put i l).idx_lt j hj
      exact (hsome j q hj hq).1
  have hsz : Maps.size (D.put (ikey i) (.held v)) ≤ d.sure.length := by
    rw [size_keys (n := 0) (IsMap.put hD _ _) (map_keys (n := 0) hm (d.put i l).idx_pair hiff)]
    exact (d.put i l).idx_len
  exact {
    cells := hc.at_ h.cells (by simpa using hbm)
    row := own_keep h.row hc (by intro k hk; cases hk; simpa using hgm)
    map := ownsMap_tight hm hsz
    sureV := fun j hj => by
      obtain ⟨v', q1, q2⟩ := h.sureV j hj
      exact ⟨v', q1, q2.keep hc (by simp)⟩
    keys := hkeys
    none_ := hnone
    some_ := hsome
    sz0 := h.sz0, sz1 := h.sz1, n0 := h.n0, n1 := h.n1, cut0 := h.cut0, cut1 := h.cut1, bg := h.bg, bX := h.bX, gX := h.gX, mX := h.mX }
end

end Go.Proofs.YtbkncfedahifkaaGreat

/-
  Package disk: Write.
-/
set_option linter.unusedVariables false
namespace Go.Proofs.YtbkncfedahifkaaGreat
open Go.RowKit Go.Maps

/-- What a write comes to. -/
def Dsk.write (d : Dsk) (i : Int) (l : List UInt8) : Dsk × Int :=
  if d.at_ i ≠ 0 then (d, d.at_ i) else if l.length ≠ d.sz then (d, 31) else if d.power.2 then (d.power.1.put i.toNat l, 0) else (d.power.1, 32)

theorem DiskAt.not_b {w : World} {b g m : Nat} {X : List Nat} {d : Dsk} {c : Nat} {vs : List Value} {D : DataW Value} (h : DiskAt w b g m X d c vs D) {A : Option Addr} {n ca : Nat} {l : List UInt8} (hr : RdB w A n ca l) (hn : 0 < n) : ∀ a, A = some a → a.block ≠ b := by
  intro a ha e
  obtain ⟨b', o, e2, hc⟩ := hr.cell hn
  rw [e2] at ha
  injection ha with ha
  subst ha
  simp only at e
  subst e
  have h0 := hc 0 (by rw [hr.length]; exact hn)
  rw [cell_of_row w b' (o + 0) _ _ _ h.cells] at h0
  rcases o with _ | _ | _ | _ | o <;> simp at h0
theorem power_keeps (d : Dsk) : d.power.1.sz = d.sz ∧ d.power.1.sure = d.sure ∧ d.power.1.dirty = d.dirty := by
  unfold Dsk.power
  split
  · exact ⟨rfl, rfl, rfl⟩
  · split <;> exact ⟨rfl, rfl, rfl⟩
theorem own_sec {w : World} {F : List Nat} {v : Value} {l : List UInt8} {base : Nat} (h : OwnB base l w v) (hF : ∀ x ∈ F, x < base) : SecV w F l.length v l := by
  obtain ⟨A, c, rfl, hown⟩ := h
  refine ⟨A, c, rfl, own_rd hown, fun a ha hf => ?_⟩
  subst ha
  have := own_ge hown a.block rfl
  have := hF _ hf
  omega

set_option maxRecDepth 100000 in
set_option maxHeartbeats 1000000 in
theorem write_any (b g m : Nat) (X : List Nat) (d : Dsk) (i : Int) (A : Option Addr) (n c : Nat) (l : List UInt8) (w : World) (h : IsDisk w b g m X d) (hX : ∀ x ∈ X, x < w.heap.size) (hr : RdB w A n c l) :
    Calls Tryz.prog 148 #[.pointer (some ⟨b, 0, none⟩), .int .i64 i, .slice A n c] w fun e w' => e = .returned (.int .i64 (d.write i l).2) ∧ IsDisk w' b g m X (d.write i l).1 ∧ Ch [b, m] w w' := by
  have ha := at_any b g m X d i w h
  by_cases hat : d.at_ i = 0
  · have hi0 : 0 ≤ i ∧ i < d.sure.length := by
      unfold Dsk.at_ at hat
      split at hat
      · cases hat
      · split at hat
        · cases hat
        · omega
    rw [hat] at ha
    have hs := size_any b g m X d w h
    have hnl := hr.length
    by_cases hsz : n = d.sz
    · subst hsz
      have hp := powered_any b g m X d w h
      have hpk := power_keeps d
      cases hpw : d.power.2 with
      | false =>
        have hw : d.write i l = (d.power.1, 32) := by simp [Dsk.write, hat, hnl, hpw]
        rw [hw]
        rw [hpw] at hp
        clear hw
        have hne : ((d.sz : Int) != (d.sz : Int)) = false := by simp
        go_enter Tryz.func148, Tryz.ntmps148
        go_wp2_with fail
        refine ha.mono ?_
        rintro e w1 ⟨rfl, rfl⟩
        go_wp2_with fail
        refine hs.mono ?_
        rintro e w1 ⟨rfl, rfl⟩
        go_wp2_with fail
        refine hp.mono ?_
        rintro e w1 ⟨rfl, h1, hc⟩
        simp only [errIf]
        go_wp2_with fail
        go_ret
        exact ⟨rfl, h1, hc.mono (by simp)⟩
      | true =>
        have hw : d.write i l = (d.power.1.put i.toNat l, 0) := by simp [Dsk.write, hat, hnl, hpw]
        rw [hw]
        rw [hpw] at hp
        clear hw
        have hne : ((d.sz : Int) != (d.sz : Int)) = false := by simp
        obtain ⟨cc, vs, D, hd⟩ := id h
        have hsz0 := hd.sz0
        have hsz1 := hd.sz1
        have hnb := hd.not_b hr (by omega)
        have hmlt := hd.mlt
        have hglt := hd.glt
        have hblt := hd.blt
        clear hd D vs cc
        go_enter Tryz.func148, Tryz.ntmps148
        go_wp2_with fail
        refine ha.mono ?_
        rintro e w1 ⟨rfl, rfl⟩
        go_wp2_with fail
        refine hs.mono ?_
        rintro e w1 ⟨rfl, rfl⟩
        go_wp2_with fail
        refine hp.mono ?_
        rintro e w1 ⟨rfl, h1, hc⟩
        simp only [errIf]
        have hr1 := hr.keep hc (by intro a ha' hm'; exact hnb a ha' (by simpa using hm'))
        have hs1 := hc.size
        obtain ⟨cc, vs, D, hd⟩ := h1
        have hcell := cell_at hd.cells 1 rfl
        obtain ⟨k, rfl⟩ : ∃ k : Nat, i = (k : Int) := ⟨i.toNat, by omega⟩
        have hk : k < d.power.1.sure.length := by rw [hpk.2.1]; omega
        have hk4 : k ≤ 4096 := by have := hd.n1; omega
        have hdd := hd.keep (hc := (Ch.refl X w1).drew)
        go_wp2_with fail
        refine dr_begin (by kernel_rfl) ?_
        refine dr_more (fun W => W.cell? ⟨b, 1, none⟩ = some (.map (some m))) ?_
        have hT : True ∧ w1.drew.cell? ⟨b, 1, none⟩ = some (.map (some m)) := ⟨trivial, hcell⟩
        refine dr_take 0 (some 27) (v := ?_) rfl rfl (by kernel_rfl) (by kernel_rfl) (by kernel_rfl) (fun _ _ _ h => h) rfl hT (fun W _ => ?_) ?_
        rotate_left
        · (go_simp; try with_reducible rfl)
        try simp only [Act.put, List.setIfInBounds_toArray, List.set_cons_zero, List.set_cons_succ]
        refine dr_take 1 (some 28) (v := ?_) rfl rfl (by kernel_rfl) (by kernel_rfl) (by kernel_rfl) (fun _ _ _ h => h) rfl hT (fun W _ => ?_) ?_
        rotate_left
        · (go_simp; try with_reducible rfl)
        try simp only [Act.put, List.setIfInBounds_toArray, List.set_cons_zero, List.set_cons_succ]
        refine dr_take 2 (some 29) (v := ?_) rfl rfl (by kernel_rfl) (by kernel_rfl) (by kernel_rfl) (fun _ _ _ h => h) rfl hT (fun W _ => ?_) ?_
        rotate_left
        · (go_simp; try with_reducible rfl)
        try simp only [Act.put, List.setIfInBounds_toArray, List.set_cons_zero, List.set_cons_succ]
        refine dr_take 3 (some 30) (v := ?_) rfl rfl (by kernel_rfl) (by kernel_rfl) (by kernel_rfl) (fun _ _ _ h => h) rfl hT (fun W _ => ?_) ?_
        rotate_left
        · (go_simp; try with_reducible rfl)
        try simp only [Act.put, List.setIfInBounds_toArray, List.set_cons_zero, List.set_cons_succ]
        refine dr_take 4 (some 31) (v := ?_) rfl rfl (by kernel_rfl) (by kernel_rfl) (by kernel_rfl) (fun _ _ _ h => h) rfl hT (fun W hW => ?_) ?_
        rotate_left
        · (have h1 := hW.2; go_simp; try with_reducible rfl)
        try simp only [Act.put, List.setIfInBounds_toArray, List.set_cons_zero, List.set_cons_succ]
        refine dr_take 5 (some 32) (v := ?_) rfl rfl (by kernel_rfl) (by kernel_rfl) (by kernel_rfl) (fun _ _ _ h => h) rfl hT (fun W _ => ?_) ?_
        rotate_left
        · (go_simp; try with_reducible rfl)
        try simp only [Act.put, List.setIfInBounds_toArray, List.set_cons_zero, List.set_cons_succ]
        refine dr_take 6 (some 33) (v := ?_) rfl rfl (by kernel_rfl) (by kernel_rfl) (by kernel_rfl) (fun _ _ _ h => h) rfl hT (fun W _ => ?_) ?_
        rotate_left
        · (go_simp; try with_reducible rfl)
        try simp only [Act.put, List.setIfInBounds_toArray, List.set_cons_zero, List.set_cons_succ]
        refine dr_step 7 rfl (by kernel_rfl) rfl (fun K hK => ?_)
        go_simp
        refine (clone_bytes A d.sz c l _ (hr1.keep (F := []) (Ch.refl _ _).drew (by simp)) (by omega)).mono ?_
        rintro e v1 ⟨vn, rfl, hv, hcd⟩
        have hcd : Ch [] w1 v1 := (Ch.refl _ _).drew.trans hcd (by simp)
        have hd2 := hd.keep (hcd.mono (by simp))
        have hT : True ∧ v1.cell? ⟨b, 1, none⟩ = some (.map (some m)) := ⟨trivial, cell_at hd2.cells 1 rfl⟩
        refine hK.out _ _ hT ?_
        clear hK K
        try simp only [Act.put, List.setIfInBounds_toArray, List.set_cons_zero, List.set_cons_succ]
        refine dr_step 8 rfl (by kernel_rfl) rfl (fun K hK => ?_)
        go_simp
        have hsec : SecV v1 (b :: g :: m :: X) l.length vn l := own_sec hv (by intro x hx; show x < w1.heap.size; simp only [List.mem_cons] at hx; rcases hx with e | e | e | e; omega; omega; omega; have := hX x e; omega)
        obtain ⟨v2, hrun, hown, hgr⟩ := hd2.map.update ikeyed Tryz.underlying105 (by have := hd2.n1; unfold maxLen; omega) (ikey_mk k hk4) (val := vn) rfl
        have hcm : Ch [m] v1 v2 := (Ch.refl _ _).grown hgr (by intro k hk; cases hk; exact .inl (by simp))
        rw [hnl, ← hpk.1] at hsec
        have hd3 := hd2.write k hk l vn (hsec.keep hcm (by simp)) hown hgr
        go_simp
        have hT : True ∧ v2.cell? ⟨b, 1, none⟩ = some (.map (some m)) := ⟨trivial, cell_at hd3.cells 1 rfl⟩
        refine hK.out _ _ hT ?_
        clear hK K
        try simp only [Act.put, List.setIfInBounds_toArray, List.set_cons_zero, List.set_cons_succ]
        refine dr_done (by kernel_rfl) ?_
        go_wp2_with fail
        go_ret
        refine ⟨rfl, ⟨cc, vs, _, hd3⟩, ?_⟩
        have hcm : Ch [m] v1 v2 := (Ch.refl _ _).grown hgr (by intro k hk; cases hk; exact .inl (by simp))
        exact ((hc.mono (by simp)).trans hcd (by simp)).trans hcm (by simp)
    · have hw : d.write i l = (d, 31) := by simp [Dsk.write, hat, hnl, hsz]
      rw [hw]
      clear hw
      have hne : ((n : Int) != (d.sz : Int)) = true := by simp; omega
      go_enter Tryz.func148, Tryz.ntmps148
      go_wp2_with fail
      refine ha.mono ?_
      rintro e w1 ⟨rfl, rfl⟩
      go_wp2_with fail
      refine hs.mono ?_
      rintro e w1 ⟨rfl, rfl⟩
      go_wp2_with fail
      go_ret
      exact ⟨rfl, h, Ch.refl _ _⟩
  · have hw : d.write i l = (d, d.at_ i) := by simp [Dsk.write, hat]
    rw [hw]
    clear hw
    have hne : (d.at_ i != 0) = true := by simpa using hat
    generalize hx : d.at_ i = x at *
    go_enter Tryz.func148, Tryz.ntmps148
    go_wp2_with fail
    refine ha.mono ?_
    rintro e w1 ⟨rfl, rfl⟩
    go_wp2_with fail
    go_ret
    exact ⟨rfl, h, Ch.refl _ _⟩

end Go.Proofs.YtbkncfedahifkaaGreat

/-
  Package disk: a sure sector stored; all written sectors cleared.
-/
set_option linter.unusedVariables false
namespace Go.Proofs.YtbkncfedahifkaaGreat
open Go.RowKit Go.Maps Go.MapKept Go.ChangeMaps

/-- A sure sector replaced. -/
def Dsk.sureAt (d : Dsk) (i : Nat) (l : List UInt8) : Dsk := { d with sure := d.sure.set i l }
/-- None left that is not sure. -/
def Dsk.clean (d : Dsk) : Dsk := { d with dirty := fun _ => none }

section
variable {w : World} {b g m : Nat} {X : List Nat} {d : Dsk} {c : Nat} {vs : List Value} {D : DataW Value}
theorem DiskAt.setSure (h : DiskAt w b g m X d c vs D) (i : Nat) (hi : i < d.sure.length) (l : List UInt8) (v : Value) (hv : SecV w (b :: g :: m :: X) d.sz v l) :
    DiskAt (w.setCell ⟨g, i, none⟩ v) b g m X (d.sureAt i l) c (vs.set i v) D := by
  have hbg := h.bg
  have hgm := h.gm
  have hc : Ch [g] w (w.setCell ⟨g, i, none⟩ v) := (Ch.refl _ _).setCell _ _ (by simp)
  have hlen : (d.sureAt i l).sure.length = d.sure.length := by simp [Dsk.sureAt]
  have hvl : vs.length = d.sure.length := by have := h.row.1; simpa using this
  have hkeep : ∀ {v' : Value} {l' : List UInt8}, SecV w (b :: g :: m :: X) d.sz v' l' → SecV (w.setCell ⟨g, i, none⟩ v) (b :: g :: m :: X) d.sz v' l' := fun q => q.keep hc (by simp)
  constructor
  · rw [hlen]; exact hc.at_ h.cells (by simpa using hbg)
  · rw [hlen]; exact (h.row.stored i v).1
  · rw [hlen]
    obtain ⟨es, clock, hb, F, hsz, hD⟩ := h.map
    exact ⟨es, clock, hc.at_ hb (by simpa using fun e => hgm e.symm), F, hsz, hD⟩
  · intro j hj
    rw [hlen] at hj
    by_cases hji : i = j
    · subst hji
      refine ⟨v, by rw [List.getElem?_set_self (by omega)], ?_⟩
      have : (d.sureAt i l).sure[i] = l := by simp [Dsk.sureAt]
      rw [this]
      exact hkeep hv
    · obtain ⟨v', q1, q2⟩ := h.sureV j hj
      refine ⟨v', by rw [List.getElem?_set_ne hji]; exact q1, ?_⟩
      have : (d.sureAt i l).sure[j] = d.sure[j] := by simp [Dsk.sureAt, hji]
      rw [this]
      exact hkeep q2
  · rw [hlen]; exact h.keys
  · rw [hlen]; exact h.none_
  · rw [hlen]
    intro j q hj hq
    obtain ⟨q0, v', q1, q2⟩ := h.some_ j q hj hq
    exact ⟨q0, v', q1, hkeep q2⟩
  · exact h.sz0
  · exact h.sz1
  · rw [hlen]; exact h.n0
  · rw [hlen]; exact h.n1
  · exact h.cut0
  · exact h.cut1
  · exact hbg
  · exact h.bX
  · exact h.gX
  · exact h.mX
theorem clear_run (ty : TypeId) {N : Nat} (h : w.ownsMap Tryz.prog 3 selfR m N D) :
    ∃ w', (Builtin.clear_ #[105] ty #[.map (some m)]).run Tryz.prog w = .ok (.tuple #[]) w' ∧ w'.ownsMap Tryz.prog 3 selfR m 0 (.map []) ∧ w.grownBy w' (some m) := by
  obtain ⟨es, clock, hb, F, hsz, rfl⟩ := h
  refine ⟨setBlock w m (.map #[] clock), ?_, ⟨#[], clock, heap_setBlock_same hb _, ⟨by simp, stamped_empty clock, by simp⟩, Nat.le_refl _, rfl⟩, ⟨rfl, rfl, rfl, by simp [setBlock], fun i _ hi => heap_setBlock_other hb _ (fun e => hi (by rw [e]))⟩⟩
  simp [Builtin.clear_, run_underlying Tryz.underlying105, MapKept.run_getObj_map hb, MapKept.run_setObj_map _ hb, Result.andThen, setBlock]
theorem DiskAt.clear {w' : World} (h : DiskAt w b g m X d c vs D) (hm : w'.ownsMap Tryz.prog 3 selfR m 0 (.map [])) (hg : w.grownBy w' (some m)) : DiskAt w' b g m X d.clean c vs (.map []) := by
  have hbm := h.bm
  have hgm := h.gm
  have hc : Ch [m] w w' := (Ch.refl _ _).grown hg (by intro k hk; cases hk; exact .inl (by simp))
  exact {
    cells := hc.at_ h.cells (by simpa using hbm)
    row := own_keep h.row hc (by intro k hk; cases hk; simpa using hgm)
    map := hm.mono (Nat.zero_le _)
    sureV := fun j hj => by
      obtain ⟨v', q1, q2⟩ := h.sureV j hj
      exact ⟨v', q1, q2.keep hc (by simp)⟩
    keys := fun k hk => by simp [has_eq] at hk
    none_ := fun i _ _ => by simp [has_eq]
    some_ := fun i l _ hl => by simp [Dsk.clean] at hl
    sz0 := h.sz0, sz1 := h.sz1, n0 := h.n0, n1 := h.n1, cut0 := h.cut0, cut1 := h.cut1, bg := h.bg, bX := h.bX, gX := h.gX, mX := h.mX }
end

end Go.Proofs.YtbkncfedahifkaaGreat

/-
  Package disk: settle, for whatever function that is handed in.
-/
set_option linter.unusedVariables false
set_option linter.unusedSimpArgs false
namespace Go.Proofs.YtbkncfedahifkaaGreat
open Go.RowKit Go.Maps

/-- The first k written sectors made sure, as res tells. -/
def Dsk.settleK (d : Dsk) (res : Nat → List UInt8 → List UInt8 → List UInt8) : Nat → Dsk
  | 0 => d
  | k + 1 => (d.settleK res k).sureAt (d.idx.getD k 0) (res k ((d.settleK res k).sure.getD (d.idx.getD k 0) []) ((d.dirty (d.idx.getD k 0)).getD []))
theorem settleK_keeps (d : Dsk) (res : Nat → List UInt8 → List UInt8 → List UInt8) : ∀ k, (d.settleK res k).sz = d.sz ∧ (d.settleK res k).dirty = d.dirty ∧ (d.settleK res k).sure.length = d.sure.length ∧ (d.settleK res k).cut = d.cut ∧ (d.settleK res k).dead = d.dead
  | 0 => ⟨rfl, rfl, rfl, rfl, rfl⟩
  | k + 1 => by
    obtain ⟨h1, h2, h3, h4, h5⟩ := settleK_keeps d res k
    refine ⟨h1, h2, ?_, h4, h5⟩
    simp only [Dsk.settleK, Dsk.sureAt, List.length_set]
    exact h3

section
variable {w : World} {b g m : Nat} {X : List Nat} {d : Dsk} {c : Nat} {vs : List Value} {D : DataW Value}
theorem DiskAt.look0 (h : DiskAt w b g m X d c vs D) (i : Nat) (hi : i < d.sure.length) {v : Value} (hv : ∀ z, D.atKey (ikey i) z = .held v) : (Instr.lookup 105 (.map (some m)) (.int .i64 (i : Int)) false).run Tryz.prog w = .ok v w := by
  have hn := h.n1
  have hz : (zeroValue 45).run Tryz.prog w = .ok (.slice none 0 0) w := by simp [Tryz.zeroValue45]
  obtain ⟨v', ps, hrun, hat⟩ := h.map.lookup ikeyed Tryz.underlying105 hz rfl (ikey_mk i (by omega))
  rw [hv] at hat
  simp only [selfR, Option.some.injEq, Prod.mk.injEq, DataW.held.injEq] at hat
  obtain ⟨rfl, _⟩ := hat
  exact hrun
end

theorem rd_cell0 {w : World} {A : Option Addr} {n c : Nat} {α : Type} {f : α → Value} {l : List α} (hr : Rd 1 w A n c (l.map f)) (k : Nat) (hk : k < l.length) :
    ∃ b o, A = some ⟨b, o, none⟩ ∧ w.cell? ⟨b, o + k, none⟩ = some (f l[k]) := by
  have hn : l.length = n := by have := hr.len; simpa using this
  obtain ⟨b, o, e, hc⟩ := hr.cells (by omega)
  exact ⟨b, o, e, hc k _ (by simp [hk])⟩
set_option maxRecDepth 100000 in
set_option maxHeartbeats 2000000 in
theorem settle_any (b g m : Nat) (X : List Nat) (d : Dsk) (f : Nat) (cap : Array Value) (res : Nat → List UInt8 → List UInt8 → List UInt8) (w : World) (h : IsDisk w b g m X d)
    (hcf : ∀ args W, (callFunc f args).run Tryz.prog W = .ok (.enter f args) W)
    (hres : ∀ (k : Nat) (s l : Value) (l1 l2 : List UInt8) (W : World), k < 4096 → Ch [g] w W → SecV W (b :: g :: m :: X) d.sz s l1 → SecV W (b :: g :: m :: X) d.sz l l2 →
      Calls Tryz.prog f (#[.int .i64 (k : Int), s, l] ++ cap) W fun e w' => ∃ v, e = .returned v ∧ SecV w' (b :: g :: m :: X) d.sz v (res k l1 l2) ∧ Ch [] W w') :
    Calls Tryz.prog 168 #[.pointer (some ⟨b, 0, none⟩), .func (.func f) #[] cap] w fun e w' => e = .returned (.tuple #[]) ∧ IsDisk w' b g m X (d.settleK res d.idx.length).clean ∧ Ch [g, m] w w' := by
  obtain ⟨c0, vs0, D, h0⟩ := h
  have hn1 := h0.n1
  have hidx := d.idx_len
  have hsize := h0.size
  have hc1 := cell_at h0.cells 1 rfl
  have hglt := h0.glt
  have hsort := sorted_any m _ D selfR w h0.map (by rw [hsize]; unfold maxLen; omega) (by rw [hsize]; omega)
  go_enter Tryz.func168, Tryz.ntmps168
  go_wp2_with fail
  refine (keys_any _ _).mono ?_
  rintro e w1 ⟨rfl, rfl⟩
  go_wp2_with fail
  refine hsort.mono ?_
  rintro e w1 ⟨v, ss, rfl, hss, hrow, hbel⟩
  have hperm := hss.trans h0.perm.symm
  have hms : ss.mergeSort (fun x y => decide (x ≤ y)) = zs d.idx := (mergeSort_of_perm_i hperm).trans (zs_sorted d.idx_pair)
  have hsl : ss.length = d.idx.length := by have := hperm.length_eq; simpa [zs] using this
  rw [hms, hsl] at hrow
  obtain ⟨As, cs, rfl⟩ := own_slice hrow
  have hch1 : Ch [] w w1 := ((Ch.refl [] w).alloc (.cells #[.map (some m)] 105)).trans (Ch.of_below (hbel.mono (by simp)) []) (by simp)
  have hrd := own_rd hrow
  have hrg : ∀ a, As = some a → a.block ≠ g := by
    rintro a rfl
    have := own_ge hrow a.block rfl
    omega
  have h1 := h0.keep (hch1.mono (by simp))
  have HC := Lib.hid hcf
  clear hsort hss hrow hbel hperm hms hsl hc1 hcf
  go_wp2_with fail
  go_loopw [13] (fun i wr => ∃ k : Nat, k ≤ d.idx.length ∧ i = .int .i64 k ∧ Ch [g] w1 wr ∧ ∃ c vs, DiskAt wr b g m X (d.settleK res k) c vs D) (fun i _ => d.idx.length - (intOf i).toNat)
  case atStart => exact ⟨0, Nat.zero_le _, rfl, Ch.refl _ _, c0, vs0, h1⟩
  case round =>
    clear h1
    obtain ⟨k, hk, rfl, hch, c, vs, hd⟩ := hrel
    obtain ⟨wA, hwA⟩ : ∃ W, W = wr := ⟨_, rfl⟩
    subst hwA
    obtain ⟨ks, kd, kl, kc, kx⟩ := settleK_keeps d res k
    by_cases hlt : k < d.idx.length
    · have hiz : k < (zs d.idx).length := by simpa [zs] using hlt
      obtain ⟨eb, eo, rfl, he⟩ := rd_cell0 (hrd.keep hch (by intro a ha hm'; exact hrg a ha (by simpa using hm'))) k (by simpa [zs] using hlt)
      have hi := d.idx_lt d.idx[k] (List.getElem_mem hlt)
      obtain ⟨hi, lw, hlw⟩ := hi
      have hgd : d.idx.getD k 0 = d.idx[k] := by simp [List.getD, hlt]
      have hstep : d.settleK res (k + 1) = (d.settleK res k).sureAt d.idx[k] (res k ((d.settleK res k).sure.getD d.idx[k] []) lw) := by
        rw [Dsk.settleK, hgd, hlw]; rfl
      have hze : (zs d.idx)[k] = (d.idx[k] : Int) := by simp [zs]
      rw [hze] at he
      have Hstep := Lib.hid hstep
      clear hgd hstep hze hiz
      generalize hI : d.idx[k] = I at *
      have hIk : I < (d.settleK res k).sure.length := by omega
      obtain ⟨hh, vl, hvl, hsl⟩ := hd.some_ I lw hIk (by rw [kd]; exact hlw)
      obtain ⟨vv, hvv, hss⟩ := hd.sureV I hIk
      have hsc : wA.cell? ⟨g, I, none⟩ = some vv := by
        have := (own_rd hd.row).cells (by omega)
        obtain ⟨b', o', e, hc⟩ := this
        injection e with e
        injection e with e1 e2
        subst e1 e2
        have := hc I vv hvv
        rwa [Nat.zero_add] at this
      have hgetD : (d.settleK res k).sure.getD I [] = (d.settleK res k).sure[I] := by simp [List.getD, hIk]
      rw [ks] at hsl hss
      have Hgd := Lib.hid hgetD
      clear hgetD
      have hb0 := cell_at hd.cells 0 rfl
      have hb1 := cell_at hd.cells 1 rfl
      have hlk := hd.look0 I hIk hvl
      have hdr := hd.keep (Ch.refl X _).drew
      have Ks := Lib.hid ks
      clear hh hi hlw kl kd kc kx ks
      have hscd : wA.drew.cell? ⟨g, I, none⟩ = some vv := hsc
      have hfz : ∀ W, Ch [] wA W → W.frozen? ⟨g, I, none⟩ = false := fun W hW => (hd.keep (hW.mono (by simp))).row.frozenAt I
      have Hfz := Lib.hid hfz
      clear hfz
      have hk4 : k < 4096 := by omega
      go_wp2_with fail
      refine dr_begin (by kernel_rfl) ?_
      refine dr_more (fun W => W.cell? ⟨b, 0, none⟩ = some (.slice (some ⟨g, 0, none⟩) (d.settleK res k).sure.length c) ∧ W.cell? ⟨b, 1, none⟩ = some (.map (some m)) ∧ (Instr.lookup 105 (.map (some m)) (.int .i64 (I : Int)) false).run Tryz.prog W = .ok vl W) ?_
      have hT : True ∧ (wA.drew.cell? ⟨b, 0, none⟩ = some (.slice (some ⟨g, 0, none⟩) (d.settleK res k).sure.length c) ∧ wA.drew.cell? ⟨b, 1, none⟩ = some (.map (some m)) ∧ (Instr.lookup 105 (.map (some m)) (.int .i64 (I : Int)) false).run Tryz.prog wA.drew = .ok vl wA.drew) := ⟨trivial, hb0, hb1, hdr.look0 I hIk hvl⟩
      refine dr_take 0 (some 18) (v := ?_) rfl rfl (by kernel_rfl) (by kernel_rfl) (by kernel_rfl) (fun _ _ _ h => h) rfl hT (fun W _ => ?_) ?_
      rotate_left
      · (go_simp; try with_reducible rfl)
      try simp only [Act.put, List.setIfInBounds_toArray, List.set_cons_zero, List.set_cons_succ]
      refine dr_take 1 (some 19) (v := ?_) rfl rfl (by kernel_rfl) (by kernel_rfl) (by kernel_rfl) (fun _ _ _ h => h) rfl hT (fun W _ => ?_) ?_
      rotate_left
      · (go_simp; try with_reducible rfl)
      try simp only [Act.put, List.setIfInBounds_toArray, List.set_cons_zero, List.set_cons_succ]
      refine dr_take 2 (some 20) (v := ?_) rfl rfl (by kernel_rfl) (by kernel_rfl) (by kernel_rfl) (fun _ _ _ h => h) rfl hT (fun W _ => ?_) ?_
      rotate_left
      · (go_simp; try with_reducible rfl)
      try simp only [Act.put, List.setIfInBounds_toArray, List.set_cons_zero, List.set_cons_succ]
      refine dr_take 3 (some 21) (v := ?_) rfl rfl (by kernel_rfl) (by kernel_rfl) (by kernel_rfl) (fun _ _ _ h => h) rfl hT (fun W hW => ?_) ?_
      rotate_left
      · (obtain ⟨-, h1, h2, h3⟩ := hW; go_simp; try with_reducible rfl)
      try simp only [Act.put, List.setIfInBounds_toArray, List.set_cons_zero, List.set_cons_succ]
      refine dr_take 4 (some 22) (v := ?_) rfl rfl (by kernel_rfl) (by kernel_rfl) (by kernel_rfl) (fun _ _ _ h => h) rfl hT (fun W _ => ?_) ?_
      rotate_left
      · (go_simp; try with_reducible rfl)
      try simp only [Act.put, List.setIfInBounds_toArray, List.set_cons_zero, List.set_cons_succ]
      refine dr_take 5 (some 23) (v := ?_) rfl rfl (by kernel_rfl) (by kernel_rfl) (by kernel_rfl) (fun _ _ _ h => h) rfl hT (fun W _ => ?_) ?_
      rotate_left
      · (go_simp; try with_reducible rfl)
      try simp only [Act.put, List.setIfInBounds_toArray, List.set_cons_zero, List.set_cons_succ]
      refine dr_take 6 (some 24) (v := ?_) rfl rfl (by kernel_rfl) (by kernel_rfl) (by kernel_rfl) (fun _ _ _ h => h) rfl hT (fun W _ => ?_) ?_
      rotate_left
      · (go_simp; try with_reducible rfl)
      try simp only [Act.put, List.setIfInBounds_toArray, List.set_cons_zero, List.set_cons_succ]
      refine dr_take 7 (some 25) (v := ?_) rfl rfl (by kernel_rfl) (by kernel_rfl) (by kernel_rfl) (fun _ _ _ h => h) rfl hT (fun W _ => ?_) ?_
      rotate_left
      · (go_simp; try with_reducible rfl)
      try simp only [Act.put, List.setIfInBounds_toArray, List.set_cons_zero, List.set_cons_succ]
      refine dr_take 8 (some 26) (v := ?_) rfl rfl (by kernel_rfl) (by kernel_rfl) (by kernel_rfl) (fun _ _ _ h => h) rfl hT (fun W _ => ?_) ?_
      rotate_left
      · (go_simp; try with_reducible rfl)
      try simp only [Act.put, List.setIfInBounds_toArray, List.set_cons_zero, List.set_cons_succ]
      refine dr_take 9 (some 27) (v := ?_) rfl rfl (by kernel_rfl) (by kernel_rfl) (by kernel_rfl) (fun _ _ _ h => h) rfl hT (fun W _ => ?_) ?_
      rotate_left
      · (go_simp; try with_reducible rfl)
      try simp only [Act.put, List.setIfInBounds_toArray, List.set_cons_zero, List.set_cons_succ]
      refine dr_take 10 (some 28) (v := ?_) rfl rfl (by kernel_rfl) (by kernel_rfl) (by kernel_rfl) (fun _ _ _ h => h) rfl hT (fun W hW => ?_) ?_
      rotate_left
      · (obtain ⟨-, h1, h2, h3⟩ := hW; go_simp; try with_reducible rfl)
      try simp only [Act.put, List.setIfInBounds_toArray, List.set_cons_zero, List.set_cons_succ]
      refine dr_take 11 (some 29) (v := ?_) rfl rfl (by kernel_rfl) (by kernel_rfl) (by kernel_rfl) (fun _ _ _ h => h) rfl hT (fun W _ => ?_) ?_
      rotate_left
      · (go_simp; try with_reducible rfl)
      try simp only [Act.put, List.setIfInBounds_toArray, List.set_cons_zero, List.set_cons_succ]
      refine dr_take 12 (some 30) (v := ?_) rfl rfl (by kernel_rfl) (by kernel_rfl) (by kernel_rfl) (fun _ _ _ h => h) rfl hT (fun W _ => ?_) ?_
      rotate_left
      · (go_simp; try with_reducible rfl)
      try simp only [Act.put, List.setIfInBounds_toArray, List.set_cons_zero, List.set_cons_succ]
      refine dr_take 14 (some 32) (v := ?_) rfl rfl (by kernel_rfl) (by kernel_rfl) (by kernel_rfl) (fun _ _ _ h => h) rfl hT (fun W _ => ?_) ?_
      rotate_left
      · (go_simp; try with_reducible rfl)
      try simp only [Act.put, List.setIfInBounds_toArray, List.set_cons_zero, List.set_cons_succ]
      refine dr_take 15 (some 33) (v := ?_) rfl rfl (by kernel_rfl) (by kernel_rfl) (by kernel_rfl) (fun _ _ _ h => h) rfl hT (fun W _ => ?_) ?_
      rotate_left
      · (go_simp; try with_reducible rfl)
      try simp only [Act.put, List.setIfInBounds_toArray, List.set_cons_zero, List.set_cons_succ]
      refine dr_take 16 (some 34) (v := ?_) rfl rfl (by kernel_rfl) (by kernel_rfl) (by kernel_rfl) (fun _ _ _ h => h) rfl hT (fun W _ => ?_) ?_
      rotate_left
      · (go_simp; try with_reducible rfl)
      try simp only [Act.put, List.setIfInBounds_toArray, List.set_cons_zero, List.set_cons_succ]
      refine dr_take 17 (some 35) (v := ?_) rfl rfl (by kernel_rfl) (by kernel_rfl) (by kernel_rfl) (fun _ _ _ h => h) rfl hT (fun W hW => ?_) ?_
      rotate_left
      · (obtain ⟨-, h1, h2, h3⟩ := hW; go_simp; try with_reducible rfl)
      try simp only [Act.put, List.setIfInBounds_toArray, List.set_cons_zero, List.set_cons_succ]
      refine dr_take 18 (some 36) (v := ?_) rfl rfl (by kernel_rfl) (by kernel_rfl) (by kernel_rfl) (fun _ _ _ h => h) rfl hT (fun W _ => ?_) ?_
      rotate_left
      · (go_simp; try with_reducible rfl)
      try simp only [Act.put, List.setIfInBounds_toArray, List.set_cons_zero, List.set_cons_succ]
      refine dr_take 19 (some 37) (v := ?_) rfl rfl (by kernel_rfl) (by kernel_rfl) (by kernel_rfl) (fun _ _ _ h => h) rfl hT (fun W hW => ?_) ?_
      rotate_left
      · (obtain ⟨-, h1, h2, h3⟩ := hW; go_simp; try with_reducible rfl)
      try simp only [Act.put, List.setIfInBounds_toArray, List.set_cons_zero, List.set_cons_succ]
      refine dr_step 13 rfl (by kernel_rfl) rfl (fun K hK => ?_)
      go_simp
      refine hK.out _ _ hT ?_
      clear hK K
      have hcf := HC.out
      try simp only [Act.put, List.setIfInBounds_toArray, List.set_cons_zero, List.set_cons_succ]
      refine dr_step 20 rfl (by kernel_rfl) rfl (fun K hK => ?_)
      go_simp
      refine (hres k vv vl _ _ wA.drew hk4 ((hch1.mono (by simp)).trans hch (by simp)).drew (hss.keep (Ch.refl [] _).drew (by simp)) (hsl.keep (Ch.refl [] _).drew (by simp))).mono ?_
      rintro e v1 ⟨vn, rfl, ⟨An, cn, rfl, hrn, hfn⟩, hcd⟩
      have hcd : Ch [] wA v1 := (Ch.refl _ _).drew.trans hcd (by simp)
      have hd2 := hd.keep (hcd.mono (by simp))
      have hT : True ∧ (v1.cell? ⟨b, 0, none⟩ = some (.slice (some ⟨g, 0, none⟩) (d.settleK res k).sure.length c) ∧ v1.cell? ⟨b, 1, none⟩ = some (.map (some m)) ∧ (Instr.lookup 105 (.map (some m)) (.int .i64 (I : Int)) false).run Tryz.prog v1 = .ok vl v1) := ⟨trivial, cell_at hd2.cells 0 rfl, cell_at hd2.cells 1 rfl, hd2.look0 I hIk hvl⟩
      refine hK.out _ _ hT ?_
      clear hK K hcf
      have hf1 := Hfz.out v1 hcd
      have hs1 := hcd.cell hsc (by simp)
      try simp only [Act.put, List.setIfInBounds_toArray, List.set_cons_zero, List.set_cons_succ]
      refine dr_take 21 (some 39) (v := ?_) rfl rfl (by kernel_rfl) (by kernel_rfl) (by kernel_rfl) (fun _ _ _ h => h) rfl hT (fun W _ => ?_) ?_
      rotate_left
      · (go_simp; try with_reducible rfl)
      try simp only [Act.put, List.setIfInBounds_toArray, List.set_cons_zero, List.set_cons_succ]
      refine dr_step 22 rfl (by kernel_rfl) rfl (fun K hK => ?_)
      go_simp
      have hd3 := hd2.setSure I hIk _ (.slice An d.sz cn) (by rw [Ks.out]; exact ⟨An, cn, rfl, hrn, hfn⟩)
      have hcn : Ch [g] wA (v1.setCell ⟨g, I, none⟩ (.slice An d.sz cn)) := (hcd.mono (by simp)).setCell _ _ (by simp)
      have hlen3 : ((d.settleK res k).sureAt I (res k (d.settleK res k).sure[I] lw)).sure.length = (d.settleK res k).sure.length := by simp [Dsk.sureAt]
      have hT : True ∧ ((v1.setCell ⟨g, I, none⟩ (.slice An d.sz cn)).cell? ⟨b, 0, none⟩ = some (.slice (some ⟨g, 0, none⟩) (d.settleK res k).sure.length c) ∧ (v1.setCell ⟨g, I, none⟩ (.slice An d.sz cn)).cell? ⟨b, 1, none⟩ = some (.map (some m)) ∧ (Instr.lookup 105 (.map (some m)) (.int .i64 (I : Int)) false).run Tryz.prog (v1.setCell ⟨g, I, none⟩ (.slice An d.sz cn)) = .ok vl (v1.setCell ⟨g, I, none⟩ (.slice An d.sz cn))) := ⟨trivial, by have := cell_at hd3.cells 0 rfl; rw [hlen3] at this; exact this, cell_at hd3.cells 1 rfl, hd3.look0 I (by rw [hlen3]; exact hIk) hvl⟩
      refine hK.out _ _ hT ?_
      clear hK K
      try simp only [Act.put, List.setIfInBounds_toArray, List.set_cons_zero, List.set_cons_succ]
      refine dr_done (by kernel_rfl) ?_
      go_wp2_with fail
      go_roundw
      case rel => exact ⟨k + 1, by omega, by go_num, hch.trans hcn (by simp), c, _, by rw [Hstep.out, Hgd.out]; exact hd3⟩
      case measure => simp [intOf]; omega
    · obtain rfl : k = d.idx.length := by omega
      have hb1 := cell_at hd.cells 1 rfl
      obtain ⟨w3, hrun, hown, hgr⟩ := clear_run 0 hd.map
      have hd3 := hd.clear hown hgr
      clear hlt hk
      go_wp2_with fail
      go_end0
      have hcm : Ch [m] wA w3 := (Ch.refl _ _).grown hgr (by intro k hk; cases hk; exact .inl (by simp))
      exact ⟨rfl, ⟨c, vs, _, hd3⟩, ((hch1.mono (by simp)).trans hch (by simp)).trans hcm (by simp)⟩

end Go.Proofs.YtbkncfedahifkaaGreat

/-
  Package disk: Flush.
-/
set_option linter.unusedVariables false
namespace Go.Proofs.YtbkncfedahifkaaGreat
open Go.RowKit Go.Maps

def resFlush (_ : Nat) (_ l : List UInt8) : List UInt8 := l
def Dsk.settled (d : Dsk) (res : Nat → List UInt8 → List UInt8 → List UInt8) : Dsk := (d.settleK res d.idx.length).clean
/-- What a flush comes to. -/
def Dsk.flush (d : Dsk) : Dsk × Int := if d.dead then (d, 32) else if d.power.2 then (d.power.1.settled resFlush, 0) else (d.power.1, 32)

theorem flush_fn (k : Nat) (s l : Value) (w : World) : Calls Tryz.prog 169 (#[.int .i64 (k : Int), s, l] ++ #[]) w fun e w' => e = .returned l ∧ w = w' := by
  show Calls Tryz.prog 169 #[.int .i64 (k : Int), s, l] w _
  go_enter Tryz.func169, Tryz.ntmps169
  go_wp2
  go_ret
  exact ⟨rfl, rfl⟩

set_option maxRecDepth 100000 in
theorem flush_any (b g m : Nat) (X : List Nat) (d : Dsk) (w : World) (h : IsDisk w b g m X d) :
    Calls Tryz.prog 147 #[.pointer (some ⟨b, 0, none⟩)] w fun e w' => e = .returned (.int .i64 d.flush.2) ∧ IsDisk w' b g m X d.flush.1 ∧ Ch [b, g, m] w w' := by
  have hp := powered_any b g m X d w h
  have h3 : w.cell? ⟨b, 3, none⟩ = some (.bool d.dead) := by
    obtain ⟨c, vs, D, h⟩ := h
    exact cell_at h.cells 3 rfl
  cases hdd : d.dead with
  | true =>
    have hw : d.flush = (d, 32) := by simp [Dsk.flush, hdd]
    rw [hw]
    rw [hdd] at h3
    clear hw hp
    go_enter Tryz.func147, Tryz.ntmps147
    go_wp2_with fail
    go_ret
    exact ⟨rfl, h, Ch.refl _ _⟩
  | false =>
    rw [hdd] at h3
    cases hpw : d.power.2 with
    | false =>
      have hw : d.flush = (d.power.1, 32) := by simp [Dsk.flush, hdd, hpw]
      rw [hw]
      rw [hpw] at hp
      clear hw
      go_enter Tryz.func147, Tryz.ntmps147
      go_wp2_with fail
      refine hp.mono ?_
      rintro e w1 ⟨rfl, h1, hc⟩
      simp only [errIf]
      go_wp2_with fail
      go_ret
      exact ⟨rfl, h1, hc.mono (by simp)⟩
    | true =>
      have hw : d.flush = (d.power.1.settled resFlush, 0) := by simp [Dsk.flush, hdd, hpw]
      rw [hw]
      rw [hpw] at hp
      clear hw
      go_enter Tryz.func147, Tryz.ntmps147
      go_wp2_with fail
      refine hp.mono ?_
      rintro e w1 ⟨rfl, h1, hc⟩
      simp only [errIf]
      have hS := settle_any b g m X d.power.1 169 #[] resFlush w1 h1 (fun args W => (enters_of Tryz.func169 (by kernel_rfl) rfl) args W) (fun k s l l1 l2 W _ _ _ hl => (flush_fn k s l W).mono fun e w' ⟨he, hw'⟩ => by
        subst hw'
        exact ⟨l, he, hl, Ch.refl _ _⟩)
      go_wp2_with fail
      refine hS.mono ?_
      rintro e w2 ⟨rfl, h2, hc2⟩
      go_wp2_with fail
      go_ret
      exact ⟨rfl, h2, (hc.mono (by simp)).trans hc2 (by simp)⟩

end Go.Proofs.YtbkncfedahifkaaGreat

/-
  Package disk: New.
-/
set_option linter.unusedVariables false
set_option linter.unusedSimpArgs false
namespace Go.Proofs.YtbkncfedahifkaaGreat
open Go.RowKit Go.Maps Go.MapKept Go.ChangeMaps

theorem Tryz.info45 : (Tryz.prog.info? 45).map (fun i => (i.zero, i.size, i.bytes)) = some (some (.slice none 0 0), 1, 24) := by kernel_rfl

/-- append, within a region: its run is known. -/
theorem app_wp {P : Program} {o : Oper} {a : Act} {K : Act → World → Prop} {Q : Exit → Act → World → Prop} {W w1 : World} (s x : Operand) (t u : TypeId) (v v1 y : Value) (ho : o.op = .call { callee := .builtin .append, args := #[s, x], argTypes := #[t, u] })
    (hs : a.eval s = v) (hx : a.eval x = y) (hr : (Builtin.append_ #[t, u] o.type #[v, y]).run P W = .ok v1 w1) (h : K (a.put o.dst v1) w1) : o.wp P a W K Q := by
  unfold Oper.wp execOp
  simp only [ho, resolve, invoke, builtin, Sem.run_bind, Sem.run_pure, Result.andThen_ok, List.map_toArray, List.map_cons, List.map_nil, hs, hx, hr]
  exact h

/-- A disk of noughts. -/
def Dsk.new (n sz : Nat) : Dsk := { sz := sz, sure := List.replicate n (List.replicate sz 0), dirty := fun _ => none, cut := -1, dead := false }

theorem make_bytes (n : Nat) (w : World) (hn : n ≤ 281474976710656) :
    ∃ w', (Instr.makeSlice 45 (.int .i64 (n : Int)) (.int .i64 (n : Int))).run Tryz.prog w = .ok (.slice (some ⟨w.heap.size, 0, none⟩) n n) w' ∧ w'.ownsRow w.heap.size 5 1 (.slice (some ⟨w.heap.size, 0, none⟩) n n) n (bvs (List.replicate n 0)) ∧ Ch [] w w' := by
  obtain ⟨i0, hi, hzz⟩ := Option.map_eq_some_iff.1 Tryz.info5
  simp only [Prod.mk.injEq] at hzz
  obtain ⟨hz0, hz1, hz2⟩ := hzz
  obtain ⟨w', h1, h2, h3⟩ := run_make_full (P := Tryz.prog) w w.heap.size 45 5 i0 _ 1 Tryz.underlying45 hi hz0 hz1 .i64 .i64 n (by rw [hz2]; omega) (by unfold maxLen; omega) (Nat.le_refl _)
  refine ⟨w', h1, ?_, (Ch.refl _ _).grown h3 (by simp)⟩
  have e : (madeCells (Value.int .u8 0).cells (n * 1)).toList = bvs (List.replicate n 0) := by
    rw [Nat.mul_one, show (Value.int IntKind.u8 0).cells = #[.int .u8 0] from rfl, toList_madeCells_one]
    simp [bvs, bv]
  rw [e] at h2
  exact h2

/-- A disk that is under way: k sectors so far. -/
structure NewAt (w : World) (base b m : Nat) (X : List Nat) (sz k : Nat) (v : Value) (vs : List Value) : Prop where
  cells : w.heap[b]? = some (.cells #[v, .map (some m), .int .i64 (-1), .bool false] 109 (0, 0))
  row : w.ownsRow base 45 1 v k vs
  map : w.heap[m]? = some (.map #[] 0)
  secs : ∀ i, i < k → ∃ u, vs[i]? = some u ∧ SecV w (b :: m :: (v.ownBlock.toList ++ X)) sz u (List.replicate sz 0)

theorem NewAt.disk {w : World} {base b m sz n : Nat} {X : List Nat} {v : Value} {vs : List Value} (h : NewAt w base b m X sz n v vs) (hz0 : 64 ≤ sz) (hz1 : sz ≤ 4096) (hn0 : 1 ≤ n) (hn1 : n ≤ 4096) (hX : ∀ x ∈ X, x < base) (hb : base ≤ b) (hm : base ≤ m) (hbm : b ≠ m) :
    ∃ g, base ≤ g ∧ IsDisk w b g m X (Dsk.new n sz) := by
  obtain ⟨A, c, rfl⟩ := own_slice h.row
  obtain ⟨b', o', rfl, hcell⟩ := (own_rd h.row).cells (by omega)
  obtain rfl : o' = 0 := by
    rcases h.row.2 with ⟨e, _⟩ | ⟨g', cap, cur, e, _⟩
    · cases e
    · simp only [Value.slice.injEq, Option.some.injEq, Addr.mk.injEq] at e
      exact e.1.2.1
  have hbb : base ≤ b' := own_ge h.row b' rfl
  have hlen : (Dsk.new n sz).sure.length = n := by simp [Dsk.new]
  have hF : ∀ x, x ∈ b :: b' :: m :: X → x ∈ b :: m :: ((Value.slice (some ⟨b', 0, none⟩) n c).ownBlock.toList ++ X) := by
    intro x hx
    simp only [List.mem_cons, List.mem_append, Value.ownBlock, Option.toList] at hx ⊢
    rcases hx with e | e | e | e <;> simp [e]
  refine ⟨b', hbb, c, vs, .map [], ?_⟩
  constructor
  · rw [hlen]; exact h.cells
  · rw [hlen]; exact own_rebase h.row (by intro k _; omega)
  · rw [hlen]
    exact ⟨#[], 0, h.map, ⟨by simp, stamped_empty 0, by simp⟩, Nat.zero_le _, rfl⟩
  · intro i hi
    rw [hlen] at hi
    obtain ⟨u, h1, h2⟩ := h.secs i hi
    refine ⟨u, h1, ?_⟩
    have : (Dsk.new n sz).sure[i]'(by rw [hlen]; exact hi) = List.replicate sz 0 := by simp [Dsk.new]
    rw [this]
    exact h2.sub hF
  · intro k hk
    simp [has_eq] at hk
  · intro i _ _
    simp [has_eq]
  · intro i l _ hl
    simp [Dsk.new] at hl
  · exact hz0
  · exact hz1
  · rw [hlen]; exact hn0
  · rw [hlen]; exact hn1
  · simp [Dsk.new]
  · simp [Dsk.new]
  · rintro rfl
    have h1 := hcell 0 (vs[0]'(by have := h.row.1; omega)) (by rw [List.getElem?_eq_getElem])
    rcases h.row.2 with ⟨e, _⟩ | ⟨g', cap, cur, e, _, hh, _⟩
    · cases e
    · simp only [Value.slice.injEq, Option.some.injEq, Addr.mk.injEq] at e
      obtain ⟨⟨rfl, _⟩, _⟩ := e
      have := h.cells
      rw [hh] at this
      simp only [Option.some.injEq, Obj.cells.injEq] at this
      exact absurd this.2.1 (by decide)
  · intro hx; have := hX _ hx; omega
  · intro hx; have := hX _ hx; omega
  · intro hx; have := hX _ hx; omega

set_option maxRecDepth 100000 in
set_option maxHeartbeats 4000000 in
theorem new_any (n size : Int) (X : List Nat) (w : World) (hX : ∀ x ∈ X, x < w.heap.size) :
    Calls Tryz.prog 14 #[.int .i64 n, .int .i64 size] w fun e w' => ∃ b g m, e = .returned (.pointer (some ⟨b, 0, none⟩)) ∧ w.heap.size ≤ b ∧ w.heap.size ≤ g ∧ w.heap.size ≤ m ∧
      IsDisk w' b g m X (Dsk.new (min (max n 1) 4096).toNat (min (max size 64) 4096).toNat) ∧ Ch [] w w' := by
  have hmm := @run_makeMap Tryz.prog
  go_enter Tryz.func14, Tryz.ntmps14
  go_wp2_with fail
  clear hmm
  refine (within_any n 1 4096 _).mono ?_
  rintro e v5 ⟨rfl, rfl⟩
  obtain ⟨N, hN⟩ : ∃ N : Nat, min (max n 1) 4096 = (N : Int) := ⟨(min (max n 1) 4096).toNat, by omega⟩
  obtain ⟨S, hS⟩ : ∃ S : Nat, min (max size 64) 4096 = (S : Int) := ⟨(min (max size 64) 4096).toNat, by omega⟩
  have hN0 : 1 ≤ N ∧ N ≤ 4096 := by omega
  have hS0 : 64 ≤ S ∧ S ≤ 4096 := by omega
  rw [hN]
  have HS := Lib.hid hS
  have HN := Lib.hid hN
  clear hN hS
  have hN2 := hN0.1
  have h1 : NewAt ((w.alloc (.map #[] 0)).alloc (.cells #[.slice none 0 0, .map (some w.heap.size), .int .i64 (-1), .bool false] 109)) w.heap.size (w.heap.size + 1) w.heap.size X S 0 (.slice none 0 0) [] := by
    constructor
    · have := heap_alloc_new (w.alloc (.map #[] 0)) (.cells #[.slice none 0 0, .map (some w.heap.size), .int .i64 (-1), .bool false] 109)
      simpa using this
    · exact World.ownsRow_nil _ _ _ _
    · exact (Below.heap_alloc (w.alloc (.map #[] 0)) _ _ (by simp)).trans (heap_alloc_new w _)
    · intro i hi
      omega
  have hcW : Ch [] w ((w.alloc (.map #[] 0)).alloc (.cells #[.slice none 0 0, .map (some w.heap.size), .int .i64 (-1), .bool false] 109)) := ((Ch.refl [] w).alloc _).alloc _
  have hB : w.heap.size + 1 < ((w.alloc (.map #[] 0)).alloc (.cells #[.slice none 0 0, .map (some w.heap.size), .int .i64 (-1), .bool false] 109)).heap.size := by simp
  generalize hw1 : (w.alloc (.map #[] 0)).alloc (.cells #[.slice none 0 0, .map (some w.heap.size), .int .i64 (-1), .bool false] 109) = w1 at *
  clear hw1
  generalize hbase : w.heap.size = base at *
  have hbm : base + 1 ≠ base := by omega
  have hbge : base ≤ base + 1 := by omega
  generalize hb : base + 1 = b at *
  clear hb
  go_wp2_with fail
  go_loopw [12] (fun i wr => ∃ (k : Nat) (v : Value) (vs : List Value), k ≤ N ∧ i = .int .i64 k ∧ NewAt wr base b base X S k v vs ∧ Ch [] w wr ∧ b < wr.heap.size) (fun i _ => N - (intOf i).toNat)
  case atStart => exact ⟨0, _, _, Nat.zero_le _, rfl, h1, hcW, hB⟩
  case round =>
    clear h1 hcW hB
    obtain ⟨k, v, vs, hk, rfl, hd, hch, hbl⟩ := hrel
    obtain ⟨wA, hwA⟩ : ∃ W, W = wr := ⟨_, rfl⟩
    subst hwA
    by_cases hlt : k < N
    · have q0 := cell_at hd.cells 0 rfl
      have hwn : Calls Tryz.prog 50 #[.int .i64 size, .int .i64 64, .int .i64 4096] wA.drew fun e w' => e = .returned (.int .i64 (S : Int)) ∧ wA.drew = w' := by
        rw [← HS.out]
        exact within_any size 64 4096 _
      obtain ⟨w8, hmk, how8, hc8⟩ := make_bytes S wA.drew (by omega)
      have hc8' : Ch [] wA w8 := (Ch.refl _ _).drew.trans hc8 (by simp)
      have q8 := hc8'.cell q0 (by simp)
      have hc9 : Ch [] wA (w8.alloc (.cells #[.slice (some ⟨wA.heap.size, 0, none⟩) S S] 45)) := hc8'.alloc _
      have q9 := hc9.cell q0 (by simp)
      have hrow9 := own_keep hd.row hc9 (by simp)
      have hsz9 := hc9.size
      have hlen8 : w8.heap.size ≤ (w8.alloc (.cells #[.slice (some ⟨wA.heap.size, 0, none⟩) S S] 45)).heap.size := by simp
      have hnewrd : Rd 1 (w8.alloc (.cells #[.slice (some ⟨wA.heap.size, 0, none⟩) S S] 45)) (some ⟨w8.heap.size, 0, none⟩) 1 1 [.slice (some ⟨wA.heap.size, 0, none⟩) S S] :=
        ⟨rfl, Nat.le_refl _, by unfold maxLen; omega, fun _ => ⟨_, 0, rfl, fun j u hu => by
          rcases j with _ | j
          · simp only [List.getElem?_cons_zero, Option.some.injEq] at hu
            subst hu
            exact cell_at (heap_alloc_new _ _) 0 rfl
          · simp at hu⟩⟩
      have hbase9 : base ≤ (w8.alloc (.cells #[.slice (some ⟨wA.heap.size, 0, none⟩) S S] 45)).heap.size := by
        have := hch.size
        omega
      obtain ⟨v1, w10, happ, hrow10, hgr, hat⟩ := run_append_rd (P := Tryz.prog) 77 45 77 (.slice none 0 0) 1 24 (by decide) Tryz.underlying77 Tryz.info45 rfl v k vs [.slice (some ⟨wA.heap.size, 0, none⟩) S S] (some ⟨w8.heap.size, 0, none⟩) 1 1 (by simp [Value.oneCell']) hrow9 hnewrd hbase9 (by omega) (by unfold maxLen; omega)
      obtain ⟨A1, c1, rfl⟩ := own_slice hrow10
      have hvb : ∀ x, v.ownBlock = some x → base ≤ x ∧ x < wA.heap.size ∧ x ≠ b ∧ x ≠ base := by
        intro x hx
        refine ⟨own_ge hd.row x hx, own_lt hd.row x hx, ?_, ?_⟩
        · rintro rfl
          rcases hd.row.2 with ⟨e, _⟩ | ⟨g', cap, cur, e, _, hh, _⟩
          · subst e; cases hx
          · subst e
            simp only [Value.ownBlock, Option.some.injEq] at hx
            subst hx
            have := hd.cells
            rw [hh] at this
            simp only [Option.some.injEq, Obj.cells.injEq] at this
            exact absurd this.2.1 (by decide)
        · rintro rfl
          rcases hd.row.2 with ⟨e, _⟩ | ⟨g', cap, cur, e, _, hh, _⟩
          · subst e; cases hx
          · subst e
            simp only [Value.ownBlock, Option.some.injEq] at hx
            subst hx
            have := hd.map
            rw [hh] at this
            cases this
      have hcG : Ch v.ownBlock.toList (w8.alloc (.cells #[.slice (some ⟨wA.heap.size, 0, none⟩) S S] 45)) w10 := (Ch.refl _ _).grown hgr (fun k hk => .inl (by simp [hk]))
      have hbno : b ∉ v.ownBlock.toList := by
        intro hx
        exact (hvb b (by simpa using hx)).2.2.1 rfl
      have hmno : base ∉ v.ownBlock.toList := by
        intro hx
        exact (hvb base (by simpa using hx)).2.2.2 rfl
      have hb10 := hcG.at_ (hc9.at_ hd.cells (by simp)) hbno
      have f10 := free_at hb10 0
      have q10 := cell_at hb10 0 rfl
      have hc10 : Ch [] w w10 := (hch.trans hc9 (by simp)).trans hcG (by intro x hx; exact .inr (by have := (hvb x (by simpa using hx)).1; omega))
      have hv1b : ∀ x, (Value.slice A1 (k + 1) c1).ownBlock = some x → x ≠ b ∧ x ≠ base := by
        intro x hx
        rcases hat with e | ⟨y, e, hy⟩
        · have := hvb x (by rw [← e]; exact hx)
          exact this.2.2
        · rw [hx] at e
          injection e with e
          omega
      have hfin : NewAt (w10.setCell ⟨b, 0, none⟩ (.slice A1 (k + 1) c1)) base b base X S (k + 1) (.slice A1 (k + 1) c1) (vs ++ [.slice (some ⟨wA.heap.size, 0, none⟩) S S]) := by
        have hcS : Ch [b] w10 (w10.setCell ⟨b, 0, none⟩ (.slice A1 (k + 1) c1)) := (Ch.refl _ _).setCell _ _ (by simp)
        constructor
        · have := heap_setCell_same w10 b 0 _ 109 (.slice A1 (k + 1) c1) hb10
          simpa using this
        · exact own_keep hrow10 hcS (by intro x hx; simpa using (hv1b x hx).1)
        · exact hcS.at_ (hcG.at_ (hc9.at_ hd.map (by simp)) hmno) (by simpa using hbm.symm)
        · intro i hi
          have hvl : vs.length = k := by simpa using hd.row.1
          have perm : ∀ {u l}, SecV (w8.alloc (.cells #[.slice (some ⟨wA.heap.size, 0, none⟩) S S] 45)) (b :: base :: (v.ownBlock.toList ++ X)) S u l → SecV (w10.setCell ⟨b, 0, none⟩ (.slice A1 (k + 1) c1)) (b :: base :: ((Value.slice A1 (k + 1) c1).ownBlock.toList ++ X)) S u l := by
            intro u l hu
            rcases hat with e | ⟨y, e, hy⟩
            · rw [e]
              exact (hu.keep hcG (by intro x hx; simp only [List.mem_cons, List.mem_append]; exact .inr (.inr (.inl hx)))).keep hcS (by simp)
            · rw [e]
              have h2 := hu.add (x := y) (by omega) hy
              refine ((h2.keep hcG (by intro x hx; simp only [List.mem_cons, List.mem_append]; exact .inr (.inr (.inr (.inl hx))))).keep hcS (by simp)).sub ?_
              intro x hx
              simp only [List.mem_cons, List.mem_append, Option.toList] at hx ⊢
              rcases hx with h | h | h | h
              · exact .inr (.inl h)
              · exact .inr (.inr (.inl h))
              · exact .inl (by simpa using h)
              · exact .inr (.inr (.inr (.inr h)))
          by_cases hik : i < k
          · obtain ⟨u, h1, h2⟩ := hd.secs i hik
            refine ⟨u, by rw [List.getElem?_append_left (by omega)]; exact h1, perm (h2.keep hc9 (by simp))⟩
          · obtain rfl : i = k := by omega
            refine ⟨_, by rw [List.getElem?_append_right (by omega), hvl, Nat.sub_self]; rfl, perm ?_⟩
            refine ⟨_, S, rfl, (own_rd how8).keep ((Ch.refl [] _).alloc _) (by simp), ?_⟩
            intro a ha
            injection ha with ha
            subst ha
            simp only [List.mem_cons, List.mem_append, not_or]
            have e2 : wA.drew.heap.size = wA.heap.size := rfl
            have hgeb := hch.size
            refine ⟨by omega, by omega, ?_, ?_⟩
            · intro hx
              have := (hvb _ (by simpa using hx)).2.1
              omega
            · intro hx
              have := hX _ hx
              omega
      have hc11 : Ch [] w (w10.setCell ⟨b, 0, none⟩ (.slice A1 (k + 1) c1)) := hc10.setCell _ _ (.inr (by simp only; omega))
      have hbl11 : b < (w10.setCell ⟨b, 0, none⟩ (.slice A1 (k + 1) c1)).heap.size := by have := hcG.size; simp; omega
      clear hv1b hbno hmno hcG hvb hb10 hbase9 hnewrd hrow9 hrow10 hgr hat how8
      have Hfin := Lib.hid hfin
      clear hfin
      have hq0 : wA.drew.cell? ⟨b, 0, none⟩ = some v := q0
      go_wp2_with fail
      refine dr_begin (by kernel_rfl) ?_
      have hT : True := trivial
      refine dr_take 0 (some 14) (v := ?_) rfl rfl (by kernel_rfl) (by kernel_rfl) (by kernel_rfl) (fun _ _ _ h => h) rfl hT (fun W _ => ?_) ?_
      rotate_left
      · (go_simp; try with_reducible rfl)
      try simp only [Act.put, List.setIfInBounds_toArray, List.set_cons_zero, List.set_cons_succ]
      refine dr_take 1 (some 15) (v := ?_) rfl rfl (by kernel_rfl) (by kernel_rfl) (by kernel_rfl) (fun _ _ _ h => h) rfl hT (fun W _ => ?_) ?_
      rotate_left
      · (go_simp; try with_reducible rfl)
      try simp only [Act.put, List.setIfInBounds_toArray, List.set_cons_zero, List.set_cons_succ]
      refine dr_take 2 (some 16) (v := ?_) rfl rfl (by kernel_rfl) (by kernel_rfl) (by kernel_rfl) (fun _ _ _ h => h) rfl hT (fun W _ => ?_) ?_
      rotate_left
      · (go_simp; try with_reducible rfl)
      try simp only [Act.put, List.setIfInBounds_toArray, List.set_cons_zero, List.set_cons_succ]
      refine dr_take 3 (some 17) (v := ?_) rfl rfl (by kernel_rfl) (by kernel_rfl) (by kernel_rfl) (fun _ _ _ h => h) rfl hT (fun W _ => ?_) ?_
      rotate_left
      · (go_simp; try with_reducible rfl)
      try simp only [Act.put, List.setIfInBounds_toArray, List.set_cons_zero, List.set_cons_succ]
      refine dr_take 4 (some 18) (v := ?_) rfl rfl (by kernel_rfl) (by kernel_rfl) (by kernel_rfl) (fun _ _ _ h => h) rfl hT (fun W _ => ?_) ?_
      rotate_left
      · (go_simp; try with_reducible rfl)
      try simp only [Act.put, List.setIfInBounds_toArray, List.set_cons_zero, List.set_cons_succ]
      refine dr_take 6 (some 20) (v := ?_) rfl rfl (by kernel_rfl) (by kernel_rfl) (by kernel_rfl) (fun _ _ _ h => h) rfl hT (fun W _ => ?_) ?_
      rotate_left
      · (go_simp; try with_reducible rfl)
      try simp only [Act.put, List.setIfInBounds_toArray, List.set_cons_zero, List.set_cons_succ]
      refine dr_step2 5 7 rfl rfl (by kernel_rfl) rfl rfl (fun K hK => ?_) (fun K hK => ?_)
      · go_simp
        refine hK.out _ _ hT ?_
        clear hK K
        try simp only [Act.put, List.setIfInBounds_toArray, List.set_cons_zero, List.set_cons_succ]
        refine dr_step 7 rfl (by kernel_rfl) rfl (fun K hK => ?_)
        go_simp
        refine hwn.mono ?_
        rintro e v7 ⟨rfl, rfl⟩
        refine hK.out _ _ hT ?_
        clear hK K
        try simp only [Act.put, List.setIfInBounds_toArray, List.set_cons_zero, List.set_cons_succ]
        refine dr_step 8 rfl (by kernel_rfl) rfl (fun K hK => ?_)
        go_simp
        refine hK.out _ _ hT ?_
        clear hK K
        try simp only [Act.put, List.setIfInBounds_toArray, List.set_cons_zero, List.set_cons_succ]
        refine dr_step 9 rfl (by kernel_rfl) rfl (fun K hK => ?_)
        go_simp
        refine hK.out _ _ hT ?_
        clear hK K
        try simp only [Act.put, List.setIfInBounds_toArray, List.set_cons_zero, List.set_cons_succ]
        refine dr_step 10 rfl (by kernel_rfl) rfl (fun K hK => ?_)
        refine app_wp (.tmp 19) (.tmp 23) 77 77 v _ _ rfl rfl rfl happ ?_
        refine hK.out _ _ hT ?_
        clear hK K
        try simp only [Act.put, List.setIfInBounds_toArray, List.set_cons_zero, List.set_cons_succ]
        refine dr_take 11 (some 25) (v := ?_) rfl rfl (by kernel_rfl) (by kernel_rfl) (by kernel_rfl) (fun _ _ _ h => h) rfl hT (fun W _ => ?_) ?_
        rotate_left
        · (go_simp; try with_reducible rfl)
        try simp only [Act.put, List.setIfInBounds_toArray, List.set_cons_zero, List.set_cons_succ]
        refine dr_take 12 (some 26) (v := ?_) rfl rfl (by kernel_rfl) (by kernel_rfl) (by kernel_rfl) (fun _ _ _ h => h) rfl hT (fun W _ => ?_) ?_
        rotate_left
        · (go_simp; try with_reducible rfl)
        try simp only [Act.put, List.setIfInBounds_toArray, List.set_cons_zero, List.set_cons_succ]
        refine dr_take 13 (some 27) (v := ?_) rfl rfl (by kernel_rfl) (by kernel_rfl) (by kernel_rfl) (fun _ _ _ h => h) rfl hT (fun W _ => ?_) ?_
        rotate_left
        · (go_simp; try with_reducible rfl)
        try simp only [Act.put, List.setIfInBounds_toArray, List.set_cons_zero, List.set_cons_succ]
        refine dr_step 14 rfl (by kernel_rfl) rfl (fun K hK => ?_)
        go_simp
        refine hK.out _ _ hT ?_
        clear hK K
        try simp only [Act.put, List.setIfInBounds_toArray, List.set_cons_zero, List.set_cons_succ]
        refine dr_done (by kernel_rfl) ?_
        go_wp2_with fail
        go_roundw
        case rel => exact ⟨k + 1, _, _, by omega, by go_num, Hfin.out, hc11, hbl11⟩
        case measure => simp [intOf]; omega
      · go_simp
        refine hwn.mono ?_
        rintro e v7 ⟨rfl, rfl⟩
        refine hK.out _ _ hT ?_
        clear hK K
        try simp only [Act.put, List.setIfInBounds_toArray, List.set_cons_zero, List.set_cons_succ]
        refine dr_step2 5 8 rfl rfl (by kernel_rfl) rfl rfl (fun K hK => ?_) (fun K hK => ?_)
        · go_simp
          refine hK.out _ _ hT ?_
          clear hK K
          try simp only [Act.put, List.setIfInBounds_toArray, List.set_cons_zero, List.set_cons_succ]
          refine dr_step 8 rfl (by kernel_rfl) rfl (fun K hK => ?_)
          go_simp
          refine hK.out _ _ hT ?_
          clear hK K
          try simp only [Act.put, List.setIfInBounds_toArray, List.set_cons_zero, List.set_cons_succ]
          refine dr_step 9 rfl (by kernel_rfl) rfl (fun K hK => ?_)
          go_simp
          refine hK.out _ _ hT ?_
          clear hK K
          try simp only [Act.put, List.setIfInBounds_toArray, List.set_cons_zero, List.set_cons_succ]
          refine dr_step 10 rfl (by kernel_rfl) rfl (fun K hK => ?_)
          refine app_wp (.tmp 19) (.tmp 23) 77 77 v _ _ rfl rfl rfl happ ?_
          refine hK.out _ _ hT ?_
          clear hK K
          try simp only [Act.put, List.setIfInBounds_toArray, List.set_cons_zero, List.set_cons_succ]
          refine dr_take 11 (some 25) (v := ?_) rfl rfl (by kernel_rfl) (by kernel_rfl) (by kernel_rfl) (fun _ _ _ h => h) rfl hT (fun W _ => ?_) ?_
          rotate_left
          · (go_simp; try with_reducible rfl)
          try simp only [Act.put, List.setIfInBounds_toArray, List.set_cons_zero, List.set_cons_succ]
          refine dr_take 12 (some 26) (v := ?_) rfl rfl (by kernel_rfl) (by kernel_rfl) (by kernel_rfl) (fun _ _ _ h => h) rfl hT (fun W _ => ?_) ?_
          rotate_left
          · (go_simp; try with_reducible rfl)
          try simp only [Act.put, List.setIfInBounds_toArray, List.set_cons_zero, List.set_cons_succ]
          refine dr_take 13 (some 27) (v := ?_) rfl rfl (by kernel_rfl) (by kernel_rfl) (by kernel_rfl) (fun _ _ _ h => h) rfl hT (fun W _ => ?_) ?_
          rotate_left
          · (go_simp; try with_reducible rfl)
          try simp only [Act.put, List.setIfInBounds_toArray, List.set_cons_zero, List.set_cons_succ]
          refine dr_step 14 rfl (by kernel_rfl) rfl (fun K hK => ?_)
          go_simp
          refine hK.out _ _ hT ?_
          clear hK K
          try simp only [Act.put, List.setIfInBounds_toArray, List.set_cons_zero, List.set_cons_succ]
          refine dr_done (by kernel_rfl) ?_
          go_wp2_with fail
          go_roundw
          case rel => exact ⟨k + 1, _, _, by omega, by go_num, Hfin.out, hc11, hbl11⟩
          case measure => simp [intOf]; omega
        · go_simp
          refine hK.out _ _ hT ?_
          clear hK K
          try simp only [Act.put, List.setIfInBounds_toArray, List.set_cons_zero, List.set_cons_succ]
          refine dr_step2 5 9 rfl rfl (by kernel_rfl) rfl rfl (fun K hK => ?_) (fun K hK => ?_)
          · go_simp
            refine hK.out _ _ hT ?_
            clear hK K
            try simp only [Act.put, List.setIfInBounds_toArray, List.set_cons_zero, List.set_cons_succ]
            refine dr_step 9 rfl (by kernel_rfl) rfl (fun K hK => ?_)
            go_simp
            refine hK.out _ _ hT ?_
            clear hK K
            try simp only [Act.put, List.setIfInBounds_toArray, List.set_cons_zero, List.set_cons_succ]
            refine dr_step 10 rfl (by kernel_rfl) rfl (fun K hK => ?_)
            refine app_wp (.tmp 19) (.tmp 23) 77 77 v _ _ rfl rfl rfl happ ?_
            refine hK.out _ _ hT ?_
            clear hK K
            try simp only [Act.put, List.setIfInBounds_toArray, List.set_cons_zero, List.set_cons_succ]
            refine dr_take 11 (some 25) (v := ?_) rfl rfl (by kernel_rfl) (by kernel_rfl) (by kernel_rfl) (fun _ _ _ h => h) rfl hT (fun W _ => ?_) ?_
            rotate_left
            · (go_simp; try with_reducible rfl)
            try simp only [Act.put, List.setIfInBounds_toArray, List.set_cons_zero, List.set_cons_succ]
            refine dr_take 12 (some 26) (v := ?_) rfl rfl (by kernel_rfl) (by kernel_rfl) (by kernel_rfl) (fun _ _ _ h => h) rfl hT (fun W _ => ?_) ?_
            rotate_left
            · (go_simp; try with_reducible rfl)
            try simp only [Act.put, List.setIfInBounds_toArray, List.set_cons_zero, List.set_cons_succ]
            refine dr_take 13 (some 27) (v := ?_) rfl rfl (by kernel_rfl) (by kernel_rfl) (by kernel_rfl) (fun _ _ _ h => h) rfl hT (fun W _ => ?_) ?_
            rotate_left
            · (go_simp; try with_reducible rfl)
            try simp only [Act.put, List.setIfInBounds_toArray, List.set_cons_zero, List.set_cons_succ]
            refine dr_step 14 rfl (by kernel_rfl) rfl (fun K hK => ?_)
            go_simp
            refine hK.out _ _ hT ?_
            clear hK K
            try simp only [Act.put, List.setIfInBounds_toArray, List.set_cons_zero, List.set_cons_succ]
            refine dr_done (by kernel_rfl) ?_
            go_wp2_with fail
            go_roundw
            case rel => exact ⟨k + 1, _, _, by omega, by go_num, Hfin.out, hc11, hbl11⟩
            case measure => simp [intOf]; omega
          · go_simp
            refine hK.out _ _ hT ?_
            clear hK K
            try simp only [Act.put, List.setIfInBounds_toArray, List.set_cons_zero, List.set_cons_succ]
            refine dr_step 5 rfl (by kernel_rfl) rfl (fun K hK => ?_)
            go_simp
            refine hK.out _ _ hT ?_
            clear hK K
            try simp only [Act.put, List.setIfInBounds_toArray, List.set_cons_zero, List.set_cons_succ]
            refine dr_step 10 rfl (by kernel_rfl) rfl (fun K hK => ?_)
            refine app_wp (.tmp 19) (.tmp 23) 77 77 v _ _ rfl rfl rfl happ ?_
            refine hK.out _ _ hT ?_
            clear hK K
            try simp only [Act.put, List.setIfInBounds_toArray, List.set_cons_zero, List.set_cons_succ]
            refine dr_take 11 (some 25) (v := ?_) rfl rfl (by kernel_rfl) (by kernel_rfl) (by kernel_rfl) (fun _ _ _ h => h) rfl hT (fun W _ => ?_) ?_
            rotate_left
            · (go_simp; try with_reducible rfl)
            try simp only [Act.put, List.setIfInBounds_toArray, List.set_cons_zero, List.set_cons_succ]
            refine dr_take 12 (some 26) (v := ?_) rfl rfl (by kernel_rfl) (by kernel_rfl) (by kernel_rfl) (fun _ _ _ h => h) rfl hT (fun W _ => ?_) ?_
            rotate_left
            · (go_simp; try with_reducible rfl)
            try simp only [Act.put, List.setIfInBounds_toArray, List.set_cons_zero, List.set_cons_succ]
            refine dr_take 13 (some 27) (v := ?_) rfl rfl (by kernel_rfl) (by kernel_rfl) (by kernel_rfl) (fun _ _ _ h => h) rfl hT (fun W _ => ?_) ?_
            rotate_left
            · (go_simp; try with_reducible rfl)
            try simp only [Act.put, List.setIfInBounds_toArray, List.set_cons_zero, List.set_cons_succ]
            refine dr_step 14 rfl (by kernel_rfl) rfl (fun K hK => ?_)
            go_simp
            refine hK.out _ _ hT ?_
            clear hK K
            try simp only [Act.put, List.setIfInBounds_toArray, List.set_cons_zero, List.set_cons_succ]
            refine dr_done (by kernel_rfl) ?_
            go_wp2_with fail
            go_roundw
            case rel => exact ⟨k + 1, _, _, by omega, by go_num, Hfin.out, hc11, hbl11⟩
            case measure => simp [intOf]; omega
    · obtain rfl : k = N := by omega
      clear hlt
      go_wp2_with fail
      go_ret
      obtain ⟨g, hg, hdk⟩ := hd.disk (by omega) (by omega) (by omega) (by omega) hX hbge (Nat.le_refl _) hbm
      refine ⟨b, g, base, rfl, by omega, by omega, by omega, ?_, hch⟩
      rw [HS.out, HN.out, Int.toNat_natCast, Int.toNat_natCast]
      exact hdk

end Go.Proofs.YtbkncfedahifkaaGreat

/-
  Package disk, in plain words: what settling comes to, sector by sector; a disk with power.
-/
set_option linter.unusedVariables false
namespace Go.Proofs.YtbkncfedahifkaaGreat
open Go.RowKit Go.Maps

section
variable {w : World} {b g m : Nat} {X : List Nat} {d : Dsk} {c : Nat} {vs : List Value} {D : DataW Value}
theorem DiskAt.sub (h : DiskAt w b g m X d c vs D) {Y : List Nat} (hY : ∀ x ∈ Y, x ∈ X) : DiskAt w b g m Y d c vs D := by
  have hF : ∀ x ∈ b :: g :: m :: Y, x ∈ b :: g :: m :: X := by
    intro x hx
    simp only [List.mem_cons] at hx ⊢
    rcases hx with e | e | e | e
    · exact .inl e
    · exact .inr (.inl e)
    · exact .inr (.inr (.inl e))
    · exact .inr (.inr (.inr (hY x e)))
  exact { h with
    sureV := fun i hi => by
      obtain ⟨v, q1, q2⟩ := h.sureV i hi
      exact ⟨v, q1, q2.sub hF⟩
    some_ := fun i l hi hl => by
      obtain ⟨q0, v, q1, q2⟩ := h.some_ i l hi hl
      exact ⟨q0, v, q1, q2.sub hF⟩
    bX := fun hx => h.bX (hY _ hx)
    gX := fun hx => h.gX (hY _ hx)
    mX := fun hx => h.mX (hY _ hx) }
theorem IsDisk.sub (h : IsDisk w b g m X d) {Y : List Nat} (hY : ∀ x ∈ Y, x ∈ X) : IsDisk w b g m Y d := by
  obtain ⟨c, vs, D, h⟩ := h
  exact ⟨c, vs, D, h.sub hY⟩
end
/-- How many written sectors lie ahead of i. -/
def Dsk.rk (d : Dsk) (i : Nat) : Nat := ((List.range i).filter fun j => (d.dirty j).isSome).length
theorem rk_zero (d : Dsk) : d.rk 0 = 0 := rfl
theorem rk_succ (d : Dsk) (i : Nat) : d.rk (i + 1) = d.rk i + if (d.dirty i).isSome then 1 else 0 := by
  unfold Dsk.rk
  rw [List.range_succ, List.filter_append, List.length_append]
  congr 1
  by_cases h : (d.dirty i).isSome <;> simp [h]
theorem rk_idx (d : Dsk) (i : Nat) (hi : i < d.sure.length) (h : (d.dirty i).isSome = true) : d.idx[d.rk i]? = some i := by
  have hsplit : d.idx = ((List.range i).filter fun j => (d.dirty j).isSome) ++ (i :: (((List.range' (i + 1) (d.sure.length - (i + 1)))).filter fun j => (d.dirty j).isSome)) := by
    unfold Dsk.idx
    have e : List.range d.sure.length = List.range i ++ i :: List.range' (i + 1) (d.sure.length - (i + 1)) := by
      rw [List.range_eq_range', List.range_eq_range', show d.sure.length = i + ((d.sure.length - (i + 1)) + 1) from by omega, ← List.range'_append_1]
      simp only [List.range'_succ]
      congr 3 <;> omega
    rw [e, List.filter_append, List.filter_cons, if_pos h]
  rw [hsplit, Dsk.rk, List.getElem?_append_right (Nat.le_refl _)]
  simp
theorem idx_rk (d : Dsk) (k : Nat) (hk : k < d.idx.length) : d.rk d.idx[k] = k := by
  obtain ⟨h1, l, h2⟩ := d.idx_lt d.idx[k] (List.getElem_mem hk)
  have h3 := rk_idx d d.idx[k] h1 (by simp [h2])
  have hp := d.idx_pair
  obtain ⟨hr, e⟩ := List.getElem?_eq_some_iff.1 h3
  rcases Nat.lt_trichotomy (d.rk d.idx[k]) k with h | h | h
  · have := List.pairwise_iff_getElem.1 hp _ _ hr hk h
    omega
  · exact h
  · have := List.pairwise_iff_getElem.1 hp _ _ hk hr h
    omega
/-- A sector once k of the written ones are settled. -/
theorem settleK_get (d : Dsk) (res : Nat → List UInt8 → List UInt8 → List UInt8) : ∀ (k : Nat), k ≤ d.idx.length → ∀ (i : Nat), i < d.sure.length →
    (d.settleK res k).sure.getD i [] = match d.dirty i with | some l => if d.rk i < k then res (d.rk i) (d.sure.getD i []) l else d.sure.getD i [] | none => d.sure.getD i []
  | 0, _, i, hi => by
    cases d.dirty i <;> simp [Dsk.settleK]
  | k + 1, hk, i, hi => by
    have hk' : k < d.idx.length := hk
    have ih := settleK_get d res k (by omega)
    obtain ⟨h1, l, h2⟩ := d.idx_lt d.idx[k] (List.getElem_mem hk')
    have h3 := idx_rk d k hk'
    have hgd : d.idx.getD k 0 = d.idx[k] := by simp [List.getD, hk']
    have hlen := (settleK_keeps d res k).2.2.1
    simp only [Dsk.settleK, hgd, h2, Option.getD_some]
    by_cases e : i = d.idx[k]
    · have h4 := ih d.idx[k] h1
      rw [h2] at h4
      simp only [h3, Nat.lt_irrefl, if_false] at h4
      rw [e, h2]
      simp only [h3, Nat.lt_succ_self, if_true, h4]
      simp [Dsk.sureAt, List.getD, hlen, h1]
    · have h5 : ((d.settleK res k).sureAt d.idx[k] (res k ((d.settleK res k).sure.getD d.idx[k] []) l)).sure.getD i [] = (d.settleK res k).sure.getD i [] := by
        simp only [Dsk.sureAt, List.getD]
        rw [List.getElem?_set_ne (fun h => e h.symm)]
      rw [h5, ih i hi]
      cases hd : d.dirty i with
      | none => rfl
      | some q =>
        have h6 := rk_idx d i hi (by simp [hd])
        have hne : d.rk i ≠ k := by
          intro h7
          rw [h7, List.getElem?_eq_getElem hk'] at h6
          injection h6 with h6
          exact e h6.symm
        by_cases h8 : d.rk i < k
        · simp only [h8, if_true]; rw [if_pos (by omega)]
        · simp only [h8, if_false]; rw [if_neg (by omega)]
theorem rk_lt (d : Dsk) (i : Nat) (hi : i < d.sure.length) (h : (d.dirty i).isSome = true) : d.rk i < d.idx.length := (List.getElem?_eq_some_iff.1 (rk_idx d i hi h)).1
theorem settled_keeps (d : Dsk) (res : Nat → List UInt8 → List UInt8 → List UInt8) : (d.settled res).sz = d.sz ∧ (d.settled res).sure.length = d.sure.length ∧ (d.settled res).cut = d.cut ∧ (d.settled res).dead = d.dead ∧ ∀ i, (d.settled res).dirty i = none := by
  obtain ⟨h1, h2, h3, h4, h5⟩ := settleK_keeps d res d.idx.length
  exact ⟨h1, h3, h4, h5, fun _ => rfl⟩
theorem settled_get (d : Dsk) (res : Nat → List UInt8 → List UInt8 → List UInt8) (i : Nat) (hi : i < d.sure.length) :
    (d.settled res).sure.getD i [] = match d.dirty i with | some l => res (d.rk i) (d.sure.getD i []) l | none => d.sure.getD i [] := by
  have h := settleK_get d res d.idx.length (Nat.le_refl _) i hi
  show (d.settleK res d.idx.length).sure.getD i [] = _
  rw [h]
  cases hd : d.dirty i with
  | none => rfl
  | some l =>
    have := rk_lt d i hi (by simp [hd])
    simp only [this, if_true]

/-! ### a disk with power -/
def Dsk.live (d : Dsk) : Prop := d.dead = false ∧ d.cut = -1
theorem live_at {d : Dsk} (h : d.live) (i : Nat) (hi : i < d.sure.length) : d.at_ i = 0 := by
  simp [Dsk.at_, h.1]
  omega
theorem live_write {d : Dsk} (h : d.live) (i : Nat) (hi : i < d.sure.length) (l : List UInt8) (hl : l.length = d.sz) : d.write i l = (d.put i l, 0) := by
  have hp : d.power = (d, true) := by simp [Dsk.power, h.2]
  simp [Dsk.write, live_at h i hi, hl, hp]
theorem live_flush {d : Dsk} (h : d.live) : d.flush = (d.settled resFlush, 0) := by
  have hp : d.power = (d, true) := by simp [Dsk.power, h.2]
  simp [Dsk.flush, h.1, hp]
theorem put_live {d : Dsk} (h : d.live) (i : Nat) (l : List UInt8) : (d.put i l).live := h
theorem put_read (d : Dsk) (i j : Nat) (l : List UInt8) : (d.put i l).read j = if j = i then l else d.read j := by
  unfold Dsk.read Dsk.put
  by_cases e : j = i <;> simp [e]
theorem settled_live {d : Dsk} (h : d.live) (res : Nat → List UInt8 → List UInt8 → List UInt8) : (d.settled res).live := by
  obtain ⟨_, _, h3, h4, _⟩ := settled_keeps d res
  exact ⟨by rw [h4]; exact h.1, by rw [h3]; exact h.2⟩
theorem flush_read (d : Dsk) (i : Nat) (hi : i < d.sure.length) : (d.settled resFlush).read i = d.read i := by
  obtain ⟨_, _, _, _, h5⟩ := settled_keeps d resFlush
  unfold Dsk.read
  rw [h5, settled_get d resFlush i hi]
  cases d.dirty i <;> rfl
theorem new_live (n sz : Nat) : (Dsk.new n sz).live := ⟨rfl, rfl⟩

/-- A byte row of one's own. -/
theorem OwnB.get {B : Nat} {l : List UInt8} {w : World} {v : Value} (h : OwnB B l w v) (h0 : 0 < l.length) :
    ∃ b c, v = .slice (some ⟨b, 0, none⟩) l.length c ∧ B ≤ b ∧ b < w.heap.size ∧ w.ownsRow B 5 1 (.slice (some ⟨b, 0, none⟩) l.length c) l.length (bvs l) := by
  obtain ⟨A, c, rfl, ho⟩ := h
  obtain ⟨b, o, rfl, _⟩ := (own_rd ho).cells h0
  obtain rfl : o = 0 := by
    rcases ho.2 with ⟨e, _⟩ | ⟨g', cap, cur, e, _⟩
    · cases e
    · simp only [Value.slice.injEq, Option.some.injEq, Addr.mk.injEq] at e
      exact e.1.2.1
  exact ⟨b, c, rfl, own_ge ho b rfl, own_lt ho b rfl, ho⟩
theorem OwnB.keep {B : Nat} {l : List UInt8} {w w' : World} {v : Value} (h : OwnB B l w v) {F : List Nat} (hc : Ch F w w') (hF : ∀ k, v.ownBlock = some k → k ∉ F) : OwnB B l w' v := by
  obtain ⟨A, c, rfl, ho⟩ := h
  exact ⟨A, c, rfl, own_keep ho hc hF⟩
/-- A cell of a byte row. -/
theorem row_byte {w : World} {B b n c : Nat} {l : List UInt8} (h : w.ownsRow B 5 1 (.slice (some ⟨b, 0, none⟩) n c) n (bvs l)) (j : Nat) (x : Nat) (hx : (l[j]?).map (·.toNat) = some x) : w.cell? ⟨b, j, none⟩ = some (.int .u8 (x : Int)) := by
  have hl : l.length = n := by have := h.1; simpa [bvs] using this
  have hj : j < l.length := by
    rcases Nat.lt_or_ge j l.length with h | h
    · exact h
    · rw [List.getElem?_eq_none h] at hx; cases hx
  rw [h.cellAt j (by omega), bvs_get, List.getElem?_eq_getElem hj]
  rw [List.getElem?_eq_getElem hj] at hx
  simp only [Option.map_some, Option.some.injEq] at hx ⊢
  rw [bv, hx]

end Go.Proofs.YtbkncfedahifkaaGreat

/-
  Arguments that are slices, opened: as a slice that is read.
-/
set_option linter.unusedVariables false
namespace Go.Proofs.YtbkncfedahifkaaGreat
open Go.ChangeShapes Go.WideShapes Go.Deep

theorem flatMap_even {α : Type} (f : α → List Value) (sz : Nat) (hf : ∀ a, (f a).length = sz) (l : List α) : (l.flatMap f).length = l.length * sz := by
  induction l with
  | nil => simp
  | cons a l ih => rw [List.flatMap_cons, List.length_append, hf, ih, List.length_cons, Nat.add_mul, Nat.one_mul, Nat.add_comm]
theorem flatMap_even_get {α : Type} (f : α → List Value) (sz : Nat) (hf : ∀ a, (f a).length = sz) (l : List α) : ∀ (k : Nat) (h : k < l.length) (i : Nat), i < sz → (l.flatMap f)[k * sz + i]? = (f l[k])[i]? := by
  induction l with
  | nil => intro k h; simp at h
  | cons a l ih =>
    intro k h i hi
    rw [List.flatMap_cons]
    cases k with
    | zero => rw [List.getElem?_append_left (by rw [hf]; omega)]; simp
    | succ k =>
      have e0 : (k + 1) * sz = k * sz + sz := by rw [Nat.add_mul, Nat.one_mul]
      rw [List.getElem?_append_right (by rw [hf]; omega), hf, show (k + 1) * sz + i - sz = k * sz + i from by omega, ih k (by simpa using h) i hi]
      rfl

section
variable {H : Type} {enc : TypeId × Value → H} {P : Program} {w : World} {base : Nat} {sp : Nat → Bool} {held : Bool}
/-- A slice of elements of sz cells each. -/
theorem rd_open {t e : TypeId} {sz : Nat} {α : Type} (f : α → List Value) (q : α → Prop) (ht : P.underlying t = some (.slice e)) (hc : P.cellsOf e = sz) (hf : ∀ a, (f a).length = sz) (hsz : 0 < sz)
    (hopen : ∀ n cs x, DataW.trod enc P w base sp held n e cs = some x → cs.length = sz → ∃ a, cs = f a ∧ q a)
    {A : Option Addr} {n c : Nat} {d : DataW H} {p : List MemPlace} (h : DataW.Trod enc P w base sp held t (.slice A n c) d p) :
    ∃ l : List α, l.length = n ∧ Rd sz w A n c (l.flatMap f) ∧ ∀ a ∈ l, q a := by
  obtain ⟨fuel, hfu⟩ := h
  rcases open_slice ht hfu with ⟨hcs, _⟩ | ⟨a, len, cap, m, k, D, Pl, hcs, hb, hl, hm, hmm, hx, hi⟩
  · simp [Value.cells] at hcs
    obtain ⟨rfl, rfl, rfl⟩ := hcs
    exact ⟨[], rfl, Rd.empty _ _ _ _ (Nat.zero_le _), by simp⟩
  · simp [Value.cells] at hcs
    obtain ⟨rfl, rfl, rfl⟩ := hcs
    have hlm : n ≤ m := by rw [hmm]; split <;> omega
    rw [hc] at hi
    have each : ∀ i, i < n → ∃ y : α, q y ∧ ∀ r, r < sz → w.cell? ((a.add (i * sz)).add r) = (f y)[r]? := by
      intro i hin
      obtain ⟨cs', h1, h2⟩ := hi i (by omega)
      obtain ⟨_, hlen, hat⟩ := World.cells?_some h1
      obtain ⟨y, rfl, hq⟩ := hopen _ _ _ h2 hlen
      exact ⟨y, hq, hat⟩
    rcases Nat.eq_zero_or_pos n with rfl | hn0
    · exact ⟨[], rfl, ⟨by simp, hl, hm, fun h => by omega⟩, by simp⟩
    · obtain ⟨y0, _, hy0⟩ := each 0 hn0
      haveI : Inhabited α := ⟨y0⟩
      obtain ⟨g, hg⟩ := choose_lt each
      obtain ⟨b, o, s⟩ := a
      have h00 := hy0 0 hsz
      have hsp : s = none := by
        have hv : (f y0)[0]? = some ((f y0)[0]'(by rw [hf]; omega)) := List.getElem?_eq_getElem (by rw [hf]; omega)
        rw [hv] at h00
        simpa [Addr.add] using World.cell?_spot h00
      subst hsp
      refine ⟨(List.range n).map g, by simp, ⟨by rw [flatMap_even f sz hf]; simp, hl, hm, fun _ => ⟨b, o, rfl, ?_⟩⟩, ?_⟩
      · intro j u hu
        have hj : j < n * sz := by
          have := (List.getElem?_eq_some_iff.1 hu).1
          rw [flatMap_even f sz hf] at this
          simpa using this
        have hjd : j / sz * sz + j % sz = j := by rw [Nat.mul_comm]; exact Nat.div_add_mod j sz
        have hjl : j / sz < n := by rw [Nat.div_lt_iff_lt_mul hsz]; exact hj
        have hr : j % sz < sz := Nat.mod_lt _ hsz
        rw [← hjd, flatMap_even_get f sz hf _ (j / sz) (by simpa using hjl) (j % sz) hr] at hu
        have hcell := (hg (j / sz) hjl).2 (j % sz) hr
        simp only [List.getElem_map, List.getElem_range] at hu
        rw [hu, Go.Deep.add_add, Addr.add_lit, hjd] at hcell
        exact hcell
      · intro x hx
        obtain ⟨i, hi', rfl⟩ := List.mem_map.1 hx
        exact (hg i (by simpa using hi')).1
theorem flatMap_one {α : Type} (f : α → Value) (l : List α) : l.flatMap (fun a => [f a]) = l.map f := by
  induction l with
  | nil => rfl
  | cons a l ih => simp [ih]
/-- A slice of elements of one cell each. -/
theorem rd_open1 {t e : TypeId} {α : Type} (f : α → Value) (q : α → Prop) (ht : P.underlying t = some (.slice e)) (hc : P.cellsOf e = 1)
    (hopen : ∀ n v x, DataW.trod enc P w base sp held n e [v] = some x → ∃ a, v = f a ∧ q a)
    {A : Option Addr} {n c : Nat} {d : DataW H} {p : List MemPlace} (h : DataW.Trod enc P w base sp held t (.slice A n c) d p) :
    ∃ l : List α, l.length = n ∧ Rd 1 w A n c (l.map f) ∧ ∀ a ∈ l, q a := by
  obtain ⟨l, h1, h2, h3⟩ := rd_open (fun a => [f a]) q ht hc (fun _ => rfl) (by omega) (fun n cs x hx hl => by
    match cs, hl with
    | [v], _ =>
      obtain ⟨a, rfl, ha⟩ := hopen n v x hx
      exact ⟨a, rfl, ha⟩) h
  rw [flatMap_one] at h2
  exact ⟨l, h1, h2, h3⟩
theorem rd_u64s {t e : TypeId} (ht : P.underlying t = some (.slice e)) (he : P.underlying e = some (.int .u64)) (hc : P.cellsOf e = 1)
    {A : Option Addr} {n c : Nat} {d : DataW H} {p : List MemPlace} (h : DataW.Trod enc P w base sp held t (.slice A n c) d p) :
    ∃ l : List Nat, l.length = n ∧ Rd 1 w A n c (l.map fun (x : Nat) => Value.int .u64 (x : Int)) ∧ ∀ x ∈ l, x < 18446744073709551616 :=
  rd_open1 _ _ ht hc (fun n v x hx => by
    obtain ⟨z, hz, _, hw⟩ := DataW.trod_int he hx
    simp only [List.cons.injEq, and_true] at hz
    subst hz
    have hb : 0 ≤ z ∧ z ≤ 18446744073709551615 := by simpa [Lit.wf, IntKind.min, IntKind.max, IntKind.signed, IntKind.bits] using hw
    exact ⟨z.toNat, by rw [Int.toNat_of_nonneg hb.1], by omega⟩) h
theorem rd_u16s {t e : TypeId} (ht : P.underlying t = some (.slice e)) (he : P.underlying e = some (.int .u16)) (hc : P.cellsOf e = 1)
    {A : Option Addr} {n c : Nat} {d : DataW H} {p : List MemPlace} (h : DataW.Trod enc P w base sp held t (.slice A n c) d p) :
    ∃ l : List Nat, l.length = n ∧ Rd 1 w A n c (l.map fun (x : Nat) => Value.int .u16 (x : Int)) ∧ ∀ x ∈ l, x < 65536 :=
  rd_open1 _ _ ht hc (fun n v x hx => by
    obtain ⟨z, hz, _, hw⟩ := DataW.trod_int he hx
    simp only [List.cons.injEq, and_true] at hz
    subst hz
    have hb : 0 ≤ z ∧ z ≤ 65535 := by simpa [Lit.wf, IntKind.min, IntKind.max, IntKind.signed, IntKind.bits] using hw
    exact ⟨z.toNat, by rw [Int.toNat_of_nonneg hb.1], by omega⟩) h
theorem rd_i64s {t e : TypeId} (ht : P.underlying t = some (.slice e)) (he : P.underlying e = some (.int .i64)) (hc : P.cellsOf e = 1)
    {A : Option Addr} {n c : Nat} {d : DataW H} {p : List MemPlace} (h : DataW.Trod enc P w base sp held t (.slice A n c) d p) :
    ∃ l : List Int, l.length = n ∧ Rd 1 w A n c (l.map fun (x : Int) => Value.int .i64 x) ∧ ∀ x ∈ l, -9223372036854775808 ≤ x ∧ x ≤ 9223372036854775807 :=
  rd_open1 _ _ ht hc (fun n v x hx => by
    obtain ⟨z, hz, _, hw⟩ := DataW.trod_int he hx
    simp only [List.cons.injEq, and_true] at hz
    subst hz
    have hb : -9223372036854775808 ≤ z ∧ z ≤ 9223372036854775807 := by simpa [Lit.wf, IntKind.min, IntKind.max, IntKind.signed, IntKind.bits] using hw
    exact ⟨z, rfl, hb⟩) h
theorem rd_u8s {t e : TypeId} (ht : P.underlying t = some (.slice e)) (he : P.underlying e = some (.int .u8)) (hc : P.cellsOf e = 1)
    {A : Option Addr} {n c : Nat} {d : DataW H} {p : List MemPlace} (h : DataW.Trod enc P w base sp held t (.slice A n c) d p) :
    ∃ l : List UInt8, l.length = n ∧ RdB w A n c l := by
  obtain ⟨l, h1, h2, _⟩ := rd_open1 (q := fun _ => True) bv ht hc (fun n v x hx => by
    obtain ⟨z, hz, _, hw⟩ := DataW.trod_int he hx
    simp only [List.cons.injEq, and_true] at hz
    subst hz
    have hb : 0 ≤ z ∧ z ≤ 255 := by simpa [Lit.wf, IntKind.min, IntKind.max, IntKind.signed, IntKind.bits] using hw
    obtain ⟨b, hb1, _⟩ := bv_of z hb.1 (by omega)
    exact ⟨b, hb1, trivial⟩) h
  exact ⟨l, h1, h2⟩
theorem rd_strs {t e : TypeId} (ht : P.underlying t = some (.slice e)) (he : P.underlying e = some .string) (hc : P.cellsOf e = 1)
    {A : Option Addr} {n c : Nat} {d : DataW H} {p : List MemPlace} (h : DataW.Trod enc P w base sp held t (.slice A n c) d p) :
    ∃ l : List ByteArray, l.length = n ∧ Rd 1 w A n c (l.map fun s => Value.string s) ∧ ∀ s ∈ l, s.size ≤ maxLen :=
  rd_open1 _ _ ht hc (fun n v x hx => by
    obtain ⟨s, hz, _, hw⟩ := DataW.trod_string he hx
    simp only [List.cons.injEq, and_true] at hz
    exact ⟨s, hz, hw⟩) h
theorem rd_bools {t e : TypeId} (ht : P.underlying t = some (.slice e)) (he : P.underlying e = some .bool) (hc : P.cellsOf e = 1)
    {A : Option Addr} {n c : Nat} {d : DataW H} {p : List MemPlace} (h : DataW.Trod enc P w base sp held t (.slice A n c) d p) :
    ∃ l : List Bool, l.length = n ∧ Rd 1 w A n c (l.map fun s => Value.bool s) := by
  obtain ⟨l, h1, h2, _⟩ := rd_open1 (q := fun _ => True) (fun s : Bool => Value.bool s) ht hc (fun n v x hx => by
    obtain ⟨s, hz, _⟩ := DataW.trod_bool he hx
    simp only [List.cons.injEq, and_true] at hz
    exact ⟨s, hz, trivial⟩) h
  exact ⟨l, h1, h2⟩
end

theorem bounds_i64' {n : Int} (h : (Lit.int .i64 n).wf = true) : -9223372036854775808 ≤ n ∧ n ≤ 9223372036854775807 := by
  simpa [Lit.wf, IntKind.min, IntKind.max, IntKind.signed, IntKind.bits] using h
theorem bounds_u64' {n : Int} (h : (Lit.int .u64 n).wf = true) : 0 ≤ n ∧ n ≤ 18446744073709551615 := by
  simpa [Lit.wf, IntKind.min, IntKind.max, IntKind.signed, IntKind.bits] using h
theorem bounds_u8' {n : Int} (h : (Lit.int .u8 n).wf = true) : 0 ≤ n ∧ n ≤ 255 := by
  simpa [Lit.wf, IntKind.min, IntKind.max, IntKind.signed, IntKind.bits] using h

end Go.Proofs.YtbkncfedahifkaaGreat

/-
  A disk with power, told by what is read of it.
-/
set_option linter.unusedVariables false
set_option linter.unusedSimpArgs false
namespace Go.Proofs.YtbkncfedahifkaaGreat
open Go.RowKit Go.Maps

/-- A disk with power: n sectors of sz bytes, that read as R tells. -/
def Live (w : World) (b g m : Nat) (X : List Nat) (n sz : Nat) (R : Nat → List UInt8) : Prop :=
  ∃ d, IsDisk w b g m X d ∧ d.live ∧ d.sure.length = n ∧ d.sz = sz ∧ ∀ i, i < n → d.read i = R i
def upd (R : Nat → List UInt8) (i : Nat) (l : List UInt8) : Nat → List UInt8 := fun j => if j = i then l else R j

section
variable {w w' : World} {b g m n sz : Nat} {X : List Nat} {R : Nat → List UInt8}
theorem Live.keep (h : Live w b g m X n sz R) (hc : Ch X w w') : Live w' b g m X n sz R := by
  obtain ⟨d, h1, h2⟩ := h
  exact ⟨d, h1.keep hc, h2⟩
theorem Live.nil (h : Live w b g m X n sz R) (hc : Ch [] w w') : Live w' b g m X n sz R := h.keep (hc.mono (by simp))
theorem Live.add (h : Live w b g m X n sz R) {x : Nat} (hx : w.heap.size ≤ x) : Live w b g m (x :: X) n sz R := by
  obtain ⟨d, h1, h2⟩ := h
  exact ⟨d, h1.add hx, h2⟩
theorem Live.sub (h : Live w b g m X n sz R) {Y : List Nat} (hY : ∀ x ∈ Y, x ∈ X) : Live w b g m Y n sz R := by
  obtain ⟨d, h1, h2⟩ := h
  exact ⟨d, h1.sub hY, h2⟩
theorem Live.lts (h : Live w b g m X n sz R) : b < w.heap.size ∧ g < w.heap.size ∧ m < w.heap.size := by
  obtain ⟨d, ⟨c, vs, D, h⟩, _⟩ := h
  exact ⟨h.blt, h.glt, h.mlt⟩
theorem Live.bds (h : Live w b g m X n sz R) : 64 ≤ sz ∧ sz ≤ 4096 ∧ 1 ≤ n ∧ n ≤ 4096 := by
  obtain ⟨d, ⟨c, vs, D, h⟩, _, hn, hz, _⟩ := h
  have h1 := h.sz0
  have h2 := h.sz1
  have h3 := h.n0
  have h4 := h.n1
  omega
theorem Live.outs (h : Live w b g m X n sz R) : b ≠ g ∧ b ≠ m ∧ g ≠ m ∧ b ∉ X ∧ g ∉ X ∧ m ∉ X := by
  obtain ⟨d, ⟨c, vs, D, h⟩, _⟩ := h
  exact ⟨h.bg, h.bm, h.gm, h.bX, h.gX, h.mX⟩
theorem Live.len (h : Live w b g m X n sz R) (i : Nat) (hi : i < n) : (R i).length = sz := by
  obtain ⟨d, ⟨c, vs, D, h⟩, hl, rfl, rfl, hR⟩ := h
  rw [← hR i hi]
  unfold Dsk.read
  cases hd : d.dirty i with
  | some l =>
    obtain ⟨_, v, _, hs⟩ := h.some_ i l hi hd
    exact hs.length
  | none =>
    obtain ⟨v, _, hs⟩ := h.sureV i hi
    have := hs.length
    simpa [List.getD, hi] using this
theorem Live.congr (h : Live w b g m X n sz R) {R' : Nat → List UInt8} (hR : ∀ i, i < n → R i = R' i) : Live w b g m X n sz R' := by
  obtain ⟨d, h1, h2, h3, h4, h5⟩ := h
  exact ⟨d, h1, h2, h3, h4, fun i hi => (h5 i hi).trans (hR i hi)⟩
end

theorem live_sectors (b g m : Nat) (X : List Nat) (n sz : Nat) (R : Nat → List UInt8) (w : World) (h : Live w b g m X n sz R) :
    Calls Tryz.prog 74 #[.pointer (some ⟨b, 0, none⟩)] w fun e w' => e = .returned (.int .i64 (n : Int)) ∧ w = w' := by
  obtain ⟨d, h1, _, rfl, _⟩ := h
  exact sectors_any b g m X d w h1
theorem live_size (b g m : Nat) (X : List Nat) (n sz : Nat) (R : Nat → List UInt8) (w : World) (h : Live w b g m X n sz R) :
    Calls Tryz.prog 75 #[.pointer (some ⟨b, 0, none⟩)] w fun e w' => e = .returned (.int .i64 (sz : Int)) ∧ w = w' := by
  obtain ⟨d, h1, _, _, rfl, _⟩ := h
  exact size_any b g m X d w h1
theorem live_read (b g m : Nat) (X : List Nat) (n sz : Nat) (R : Nat → List UInt8) (i : Nat) (w : World) (h : Live w b g m X n sz R) (hi : i < n) :
    Calls Tryz.prog 142 #[.pointer (some ⟨b, 0, none⟩), .int .i64 (i : Int)] w fun e w' => ∃ x c, e = .returned (.tuple #[.slice (some ⟨x, 0, none⟩) sz c, .int .i64 0]) ∧ w.heap.size ≤ x ∧ x < w'.heap.size ∧
      w'.ownsRow w.heap.size 5 1 (.slice (some ⟨x, 0, none⟩) sz c) sz (bvs (R i)) ∧ Ch [] w w' := by
  have hl := h.len i hi
  have hbd := h.bds
  obtain ⟨d, h1, h2, rfl, rfl, h5⟩ := h
  refine (read_any b g m X d i w h1 (live_at h2 i hi)).mono ?_
  rintro e w' ⟨v, rfl, ho, hc⟩
  rw [h5 i hi] at ho
  obtain ⟨x, c, rfl, hx1, hx2, hrow⟩ := ho.get (by omega)
  rw [hl] at hrow
  exact ⟨x, c, by rw [hl], hx1, hx2, hrow, hc⟩
theorem live_write_any (b g m : Nat) (X : List Nat) (n sz : Nat) (R : Nat → List UInt8) (i : Nat) (A : Option Addr) (c : Nat) (l : List UInt8) (w : World) (h : Live w b g m X n sz R) (hX : ∀ x ∈ X, x < w.heap.size) (hr : RdB w A sz c l) (hi : i < n) :
    Calls Tryz.prog 148 #[.pointer (some ⟨b, 0, none⟩), .int .i64 (i : Int), .slice A sz c] w fun e w' => e = .returned (.int .i64 0) ∧ Live w' b g m X n sz (upd R i l) ∧ Ch [b, m] w w' := by
  obtain ⟨d, h1, h2, rfl, rfl, h5⟩ := h
  have hw := write_any b g m X d (i : Int) A _ c l w h1 hX hr
  rw [live_write h2 i hi l hr.length] at hw
  refine hw.mono ?_
  rintro e w' ⟨rfl, h6, h7⟩
  refine ⟨rfl, ⟨_, h6, put_live h2 i l, rfl, rfl, fun j hj => ?_⟩, h7⟩
  rw [put_read, upd]
  split
  · rfl
  · exact h5 j hj
theorem live_flush_any (b g m : Nat) (X : List Nat) (n sz : Nat) (R : Nat → List UInt8) (w : World) (h : Live w b g m X n sz R) :
    Calls Tryz.prog 147 #[.pointer (some ⟨b, 0, none⟩)] w fun e w' => e = .returned (.int .i64 0) ∧ Live w' b g m X n sz R ∧ Ch [b, g, m] w w' := by
  obtain ⟨d, h1, h2, rfl, rfl, h5⟩ := h
  have hw := flush_any b g m X d w h1
  rw [live_flush h2] at hw
  refine hw.mono ?_
  rintro e w' ⟨rfl, h6, h7⟩
  obtain ⟨k1, k2, _⟩ := settled_keeps d resFlush
  exact ⟨rfl, ⟨_, h6, settled_live h2 _, k2, k1, fun j hj => by rw [flush_read d j hj]; exact h5 j hj⟩, h7⟩
theorem new_live_any (n sz : Nat) (X : List Nat) (w : World) (hX : ∀ x ∈ X, x < w.heap.size) (hn0 : 1 ≤ n) (hn1 : n ≤ 4096) (hs0 : 64 ≤ sz) (hs1 : sz ≤ 4096) :
    Calls Tryz.prog 14 #[.int .i64 (n : Int), .int .i64 (sz : Int)] w fun e w' => ∃ b g m, e = .returned (.pointer (some ⟨b, 0, none⟩)) ∧ w.heap.size ≤ b ∧ w.heap.size ≤ g ∧ w.heap.size ≤ m ∧
      Live w' b g m X n sz (fun _ => List.replicate sz 0) ∧ Ch [] w w' := by
  refine (new_any n sz X w hX).mono ?_
  rintro e w' ⟨b, g, m, rfl, h1, h2, h3, h4, h5⟩
  have e1 : (min (max (n : Int) 1) 4096).toNat = n := by omega
  have e2 : (min (max (sz : Int) 64) 4096).toNat = sz := by omega
  rw [e1, e2] at h4
  exact ⟨b, g, m, rfl, h1, h2, h3, ⟨_, h4, new_live _ _, by simp [Dsk.new], rfl, fun i hi => by simp [Dsk.read, Dsk.new, List.getD, hi]⟩, h5⟩

end Go.Proofs.YtbkncfedahifkaaGreat
