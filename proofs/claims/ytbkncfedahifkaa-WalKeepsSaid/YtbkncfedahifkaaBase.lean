/-
  Words used by all texts of this seat: bytes as cells, what changes at most some blocks, slices that are read.
-/
import Derived.Test.YtbkncfedahifkaaProg
import Derived.WalkKit
import Derived.KernelRfl
import Derived.Lib.Hide
import Derived.Lib.ConvBytes
import Derived.Lib.AppendStr
import Derived.Maps.AppendAt
import Derived.Deep.Draws
import Derived.Laws.BytesArg
import Derived.Laws.OwnMore
import Derived.WalkSpells
import Derived.WalkLawsBesides
set_option linter.unusedVariables false
set_option linter.unusedSimpArgs false
namespace Go.Proofs.Ytbkncfedahifkaa
open Go.RowKit

/-! ### bytes as cells -/
def bv (c : UInt8) : Value := .int .u8 (c.toNat : Int)
def bvs (l : List UInt8) : List Value := l.map bv
theorem bvs_length (l : List UInt8) : (bvs l).length = l.length := by simp [bvs]
theorem bvs_append (a b : List UInt8) : bvs (a ++ b) = bvs a ++ bvs b := by simp [bvs]
theorem bvs_nil : bvs [] = [] := rfl
theorem bvs_get (l : List UInt8) (j : Nat) : (bvs l)[j]? = (l[j]?).map bv := by simp [bvs]
theorem bv_of (n : Int) (h0 : 0 ≤ n) (h1 : n < 256) : ∃ c : UInt8, Value.int .u8 n = bv c ∧ (c.toNat : Int) = n := by
  refine ⟨UInt8.ofNat n.toNat, ?_, ?_⟩
  · simp only [bv, UInt8.toNat_ofNat']
    congr 1
    have : n.toNat % 2 ^ 8 = n.toNat := Nat.mod_eq_of_lt (by omega)
    rw [this]
    omega
  · rw [UInt8.toNat_ofNat']
    have : n.toNat % 2 ^ 8 = n.toNat := Nat.mod_eq_of_lt (by omega)
    rw [this]
    omega
theorem bv_one (c : UInt8) : (bv c).oneCell' = true := rfl
theorem bvs_one (l : List UInt8) : ∀ u ∈ bvs l, u.oneCell' = true := by
  intro u hu
  simp only [bvs, List.mem_map] at hu
  obtain ⟨c, _, rfl⟩ := hu
  rfl
theorem u8_lt (c : UInt8) : (c.toNat : Int) < 256 := by have := c.toNat_lt; omega
theorem u8_ge (c : UInt8) : (0 : Int) ≤ (c.toNat : Int) := by omega

/-! ### what changes at most the blocks of F -/
structure Ch (F : List Nat) (w w' : World) : Prop where
  os : w'.os = w.os
  tape : w'.tape = w.tape
  output : w'.output = w.output
  size : w.heap.size ≤ w'.heap.size
  block : ∀ k, k < w.heap.size → k ∉ F → w'.heap[k]? = w.heap[k]?

theorem Ch.refl (F : List Nat) (w : World) : Ch F w w := ⟨rfl, rfl, rfl, Nat.le_refl _, fun _ _ _ => rfl⟩
theorem Ch.trans {F G : List Nat} {a b c : World} (h : Ch F a b) (k : Ch G b c) (hG : ∀ x ∈ G, x ∈ F ∨ a.heap.size ≤ x) : Ch F a c :=
  ⟨k.os.trans h.os, k.tape.trans h.tape, k.output.trans h.output, Nat.le_trans h.size k.size, fun i hi hF =>
    (k.block i (Nat.lt_of_lt_of_le hi h.size) (fun hx => by rcases hG i hx with h' | h'; exact hF h'; omega)).trans (h.block i hi hF)⟩
theorem Ch.trans' {F : List Nat} {a b c : World} (h : Ch F a b) (k : Ch F b c) : Ch F a c := h.trans k (fun _ h => .inl h)
theorem Ch.mono {F G : List Nat} {a b : World} (h : Ch F a b) (hs : ∀ x ∈ F, x ∈ G ∨ a.heap.size ≤ x) : Ch G a b :=
  ⟨h.os, h.tape, h.output, h.size, fun i hi hG => h.block i hi (fun hx => by rcases hs i hx with h' | h'; exact hG h'; omega)⟩
theorem Ch.drew {F : List Nat} {a w : World} (h : Ch F a w) : Ch F a w.drew := ⟨h.os, h.tape, h.output, h.size, h.block⟩
theorem Ch.drewN {F : List Nat} {a w : World} (h : Ch F a w) (n : Nat) : Ch F a (w.drewN n) := ⟨h.os, h.tape, h.output, h.size, h.block⟩
theorem Ch.alloc {F : List Nat} {a w : World} (h : Ch F a w) (o : Obj) : Ch F a (w.alloc o) :=
  h.trans (G := []) ⟨rfl, rfl, rfl, by simp, fun k hk _ => Below.heap_alloc w o k hk⟩ (by simp)
theorem Ch.setCell {F : List Nat} {a w : World} (h : Ch F a w) (p : Addr) (u : Value) (hp : p.block ∈ F ∨ a.heap.size ≤ p.block) : Ch F a (w.setCell p u) :=
  h.trans (G := [p.block]) ⟨rfl, rfl, rfl, by simp, fun k _ hF => heap_setCell_other w p k u (by simpa using hF)⟩ (by simpa using hp)
theorem Ch.grown {F : List Nat} {a w w' : World} (h : Ch F a w) {row : Option Nat} (hg : w.grownBy w' row) (hr : ∀ k, row = some k → k ∈ F ∨ a.heap.size ≤ k) : Ch F a w' :=
  h.trans (G := row.toList) ⟨hg.os, hg.tape, hg.output, hg.size, fun k hk hF => hg.block k hk (fun e => hF (by simp [← e]))⟩ (fun x hx => hr x (by simpa [eq_comm] using hx))
theorem Ch.of_below {w w' : World} (h : Below w.heap.size w w') (F : List Nat) : Ch F w w' := ⟨h.os, h.tape, h.output, h.size, fun k hk _ => h.block k hk⟩
theorem Ch.below {F : List Nat} {w w' : World} (h : Ch F w w') {B : Nat} (hB : B ≤ w.heap.size) (hF : ∀ k ∈ F, B ≤ k) : Below B w w' :=
  ⟨h.os, h.tape, h.output, h.size, fun k hk => h.block k (by omega) (fun hx => by have := hF k hx; omega)⟩
theorem Ch.nil_below {w w' : World} (h : Ch [] w w') : Below w.heap.size w w' := h.below (Nat.le_refl _) (by simp)
theorem Ch.cell {F : List Nat} {w w' : World} (h : Ch F w w') {a : Addr} {v : Value} (hc : w.cell? a = some v) (hF : a.block ∉ F) : w'.cell? a = some v :=
  (World.cell?_of_block (h.block a.block (World.block_lt_of_cell? w a hc) hF)).trans hc
theorem Ch.at_ {F : List Nat} {w w' : World} (h : Ch F w w') {k : Nat} {o : Obj} (hk : w.heap[k]? = some o) (hF : k ∉ F) : w'.heap[k]? = some o :=
  (h.block k (Array.getElem?_eq_some_iff.1 hk).1 hF).trans hk
/-- 'Below', behind a change of blocks that are new to it. -/
theorem Below.ch {B : Nat} {F : List Nat} {a w w' : World} (h : Below B a w) (k : Ch F w w') (hB : B ≤ w.heap.size) (hF : ∀ x ∈ F, B ≤ x) : Below B a w' := h.trans (k.below hB hF)

theorem lt_of_at {w : World} {k : Nat} {o : Obj} (h : w.heap[k]? = some o) : k < w.heap.size := (Array.getElem?_eq_some_iff.1 h).1
theorem cell_at {w : World} {b : Nat} {cs : Array Value} {t : TypeId} {fr : Nat × Nat} (h : w.heap[b]? = some (.cells cs t fr)) (j : Nat) {v : Value} (hj : cs[j]? = some v) : w.cell? ⟨b, j, none⟩ = some v :=
  (cell_of_row w b j cs t fr h).trans hj
theorem free_at {w : World} {b : Nat} {cs : Array Value} {t : TypeId} (h : w.heap[b]? = some (.cells cs t (0, 0))) (j : Nat) : w.frozen? ⟨b, j, none⟩ = false := frozen_of_row w b j cs t h

/-! ### a slice that is read: n elements of sz cells -/
structure Rd (sz : Nat) (w : World) (A : Option Addr) (n c : Nat) (xs : List Value) : Prop where
  len : xs.length = n * sz
  cap : n ≤ c
  max : c ≤ maxLen
  cells : 0 < n → ∃ b o, A = some ⟨b, o, none⟩ ∧ ∀ j u, xs[j]? = some u → w.cell? ⟨b, o + j, none⟩ = some u

theorem Rd.keep {sz : Nat} {w w' : World} {A : Option Addr} {n c : Nat} {xs : List Value} (h : Rd sz w A n c xs) {F : List Nat} (hc : Ch F w w') (hF : ∀ a, A = some a → a.block ∉ F) : Rd sz w' A n c xs :=
  ⟨h.len, h.cap, h.max, fun hn => by
    obtain ⟨b, o, e, hcell⟩ := h.cells hn
    exact ⟨b, o, e, fun j u hu => hc.cell (hcell j u hu) (hF ⟨b, o, none⟩ e)⟩⟩
theorem Rd.below {sz : Nat} {w w' : World} {A : Option Addr} {n c : Nat} {xs : List Value} (h : Rd sz w A n c xs) (hb : Below w.heap.size w w') : Rd sz w' A n c xs :=
  h.keep (Ch.of_below hb []) (by simp)
theorem Rd.empty (sz : Nat) (w : World) (A : Option Addr) (c : Nat) (hc : c ≤ maxLen) : Rd sz w A 0 c [] := ⟨by simp, Nat.zero_le _, hc, fun h => by omega⟩
theorem Rd.take {sz : Nat} {w : World} {A : Option Addr} {n c : Nat} {xs : List Value} (h : Rd sz w A n c xs) (m : Nat) (hm : m ≤ n) : Rd sz w A m c (xs.take (m * sz)) := by
  have hl := h.len
  have hc := h.cap
  have hms : m * sz ≤ n * sz := Nat.mul_le_mul_right _ hm
  refine ⟨by rw [List.length_take]; omega, by omega, h.max, fun h0 => ?_⟩
  obtain ⟨b, o, e, hcell⟩ := h.cells (by omega)
  refine ⟨b, o, e, fun j u hu => hcell j u ?_⟩
  rw [List.getElem?_take] at hu
  split at hu
  · exact hu
  · cases hu
theorem Rd.drop {sz : Nat} {w : World} {A : Option Addr} {n c : Nat} {xs : List Value} (h : Rd sz w A n c xs) (m : Nat) (hm : m ≤ n) : Rd sz w (if c = m then A else A.map (·.add (m * sz))) (n - m) (c - m) (xs.drop (m * sz)) := by
  have hl := h.len
  have hc := h.cap
  refine ⟨by rw [List.length_drop, hl, Nat.sub_mul], by omega, by have := h.max; omega, fun h0 => ?_⟩
  obtain ⟨b, o, rfl, hcell⟩ := h.cells (by omega)
  rw [if_neg (by omega)]
  refine ⟨b, o + m * sz, by simp [Addr.add_lit], fun j u hu => ?_⟩
  rw [List.getElem?_drop] at hu
  have := hcell (m * sz + j) u hu
  rwa [← Nat.add_assoc] at this
/-- What the walk is told of 'x[m:]': its address is a letter. -/
theorem cut_from {P : Program} (t e : TypeId) {i : TypeInfo} {sz : Nat} (ht : P.underlying t = some (.slice e)) (hi : P.info? e = some i) (hsz : i.size = sz) (A : Option Addr) (n c m : Nat) (hm : m ≤ n) :
    ∃ A' : Option Addr, (∀ (kl : IntKind) (W : World), (Instr.slice t (.slice A n c) (some (.int kl (m : Int))) none none).run P W = .ok (.slice A' (n - m) (c - m)) W) ∧
      (∀ (w : World) (xs : List Value), Rd sz w A n c xs → Rd sz w A' (n - m) (c - m) (xs.drop (m * sz))) ∧ (∀ a', A' = some a' → ∃ a, A = some a ∧ a'.block = a.block) := by
  refine ⟨if c = m then A else A.map (·.add (m * sz)), fun kl W => ?_, fun w l h => h.drop m hm, fun a' ha => ?_⟩
  · have hel : P.elem t = e := by simp [Program.elem, ht]
    have hu : P.underlying t = some (.slice (P.elem t)) := by rw [hel]; exact ht
    rw [run_slice_l W t A n c hu kl (m : Int) (Int.natCast_nonneg _) (by omega), hel]
    simp [sizeOf, typeInfo, hi, hsz, sliced, Result.andThen]
  · split at ha
    · exact ⟨a', ha, rfl⟩
    · rcases A with _ | a
      · simp at ha
      · refine ⟨a, rfl, ?_⟩
        simp only [Option.map_some, Option.some.injEq] at ha
        subst ha
        unfold Addr.add
        split <;> rfl

/-- A slice of bytes that is read. -/
abbrev RdB (w : World) (A : Option Addr) (n c : Nat) (l : List UInt8) : Prop := Rd 1 w A n c (bvs l)
theorem RdB.length {w : World} {A : Option Addr} {n c : Nat} {l : List UInt8} (h : RdB w A n c l) : l.length = n := by have := h.len; simpa [bvs] using this
theorem bvs_take (l : List UInt8) (m : Nat) : (bvs l).take m = bvs (l.take m) := by simp [bvs]
theorem bvs_drop (l : List UInt8) (m : Nat) : (bvs l).drop m = bvs (l.drop m) := by simp [bvs]
theorem RdB.cell {w : World} {A : Option Addr} {n c : Nat} {l : List UInt8} (h : RdB w A n c l) (h0 : 0 < n) : ∃ b o, A = some ⟨b, o, none⟩ ∧ ∀ j (hj : j < l.length), w.cell? ⟨b, o + j, none⟩ = some (.int .u8 (l[j].toNat : Int)) := by
  obtain ⟨b, o, e, hc⟩ := h.cells h0
  exact ⟨b, o, e, fun j hj => hc j _ (by rw [bvs_get, List.getElem?_eq_getElem hj]; rfl)⟩

/-! ### a row of the call's own -/
theorem own_rd {w : World} {base n : Nat} {e : TypeId} {sz : Nat} {A : Option Addr} {c : Nat} {xs : List Value} (h : w.ownsRow base e sz (.slice A n c) n xs) : Rd sz w A n c xs := by
  rcases h.2 with ⟨h1, rfl⟩ | ⟨g, cap, cur, h1, _, hh, h2, h3, h4, htake⟩
  · simp only [Value.slice.injEq] at h1
    obtain ⟨rfl, _, rfl⟩ := h1
    exact ⟨h.1, Nat.le_refl _, by simp [maxLen], fun h => by omega⟩
  · simp only [Value.slice.injEq] at h1
    obtain ⟨rfl, _, rfl⟩ := h1
    refine ⟨h.1, h2, h3, fun _ => ⟨g, 0, rfl, fun j u hu => ?_⟩⟩
    have := h.cells (g := g) rfl j u hu
    rwa [Addr.add_lit] at this
theorem own_slice {w : World} {base n : Nat} {e : TypeId} {size : Nat} {v : Value} {xs : List Value} (h : w.ownsRow base e size v n xs) : ∃ A c, v = .slice A n c := by
  rcases h.2 with ⟨rfl, rfl⟩ | ⟨g, cap, cur, rfl, _⟩
  · exact ⟨none, 0, rfl⟩
  · exact ⟨_, cap, rfl⟩
theorem own_lt {w : World} {base : Nat} {e : TypeId} {size n : Nat} {v : Value} {xs : List Value} (h : w.ownsRow base e size v n xs) (k : Nat) (hk : v.ownBlock = some k) : k < w.heap.size := (h.lt k hk).2
theorem own_ge {w : World} {base : Nat} {e : TypeId} {size n : Nat} {v : Value} {xs : List Value} (h : w.ownsRow base e size v n xs) (k : Nat) (hk : v.ownBlock = some k) : base ≤ k := (h.lt k hk).1
theorem own_keep {w w' : World} {base : Nat} {e : TypeId} {size n : Nat} {v : Value} {xs : List Value} (h : w.ownsRow base e size v n xs) {F : List Nat} (hc : Ch F w w') (hF : ∀ k, v.ownBlock = some k → k ∉ F) : w'.ownsRow base e size v n xs := by
  refine ⟨h.1, ?_⟩
  rcases h.2 with hn | ⟨g, cap, cur, rfl, hb, hgg, rest⟩
  · exact .inl hn
  · exact .inr ⟨g, cap, cur, rfl, hb, hc.at_ hgg (hF g rfl), rest⟩
theorem own_rebase {w : World} {base base' : Nat} {e : TypeId} {size n : Nat} {v : Value} {xs : List Value} (h : w.ownsRow base e size v n xs) (hb : ∀ k, v.ownBlock = some k → base' ≤ k) : w.ownsRow base' e size v n xs := by
  refine ⟨h.1, ?_⟩
  rcases h.2 with hn | ⟨g, cap, cur, rfl, _, rest⟩
  · exact .inl hn
  · exact .inr ⟨g, cap, cur, rfl, hb g rfl, rest⟩

theorem own_snoc {w : World} {base : Nat} {e : TypeId} {v : Value} {l : List UInt8} {z : Int} {c : UInt8} (h : w.ownsRow base e 1 v (l.length + 1) (bvs l ++ [.int .u8 z])) (hz : z = (c.toNat : Int)) : w.ownsRow base e 1 v (l ++ [c]).length (bvs (l ++ [c])) := by
  subst hz
  rw [List.length_append, bvs_append]
  exact h

theorem strOfNums_bytes (l : List UInt8) : strOfNums (l.map fun c => (c.toNat : Int)) = ⟨l.toArray⟩ := by
  simp only [strOfNums, List.map_map]
  congr 2
  conv => rhs; rw [← List.map_id l]
  apply List.map_congr_left
  intro c _
  simp
/-- A slice of bytes as a string. -/
def str (l : List UInt8) : ByteArray := ⟨l.toArray⟩
theorem str_data (l : List UInt8) : (str l).data.toList = l := rfl
theorem str_size (l : List UInt8) : (str l).size = l.length := by simp [str, ByteArray.size]
theorem str_of (s : ByteArray) : str s.data.toList = s := rfl
/-- string(b): laid ahead of the walk. -/
theorem conv_str {P : Program} {w : World} {A : Option Addr} {n c : Nat} {l : List UInt8} (h : RdB w A n c l) (src e dst : TypeId) (hs : P.underlying src = some (.slice e)) (he : P.underlying e = some (.int .u8)) (hd : P.underlying dst = some .string) :
    (convert src dst (.slice A n c)).run P w = .ok (.string (str l)) w := by
  rcases Nat.eq_zero_or_pos n with rfl | hn
  · obtain rfl : l = [] := List.eq_nil_of_length_eq_zero h.length
    rcases A with _ | a
    · exact run_convert_bytes_nil w src e hs he 0 c dst hd
    · rw [run_convert_bytes_string w src dst e _ 0 c hs he hd, run_bytesToString w _ 0 c [] (by simp [loadCells, loadCellsFrom])]
      rfl
  · obtain ⟨b, o, rfl, hc⟩ := h.cell hn
    have hl := h.length
    have := run_convert_bytes_arg (P := P) w src e hs he b o n c (l.map fun c => (c.toNat : Int)) (by simpa using hl) (fun i hi => by
      rw [hc i (by omega)]
      simp [List.getD, show i < l.length by omega]) dst hd
    rw [strOfNums_bytes] at this
    exact this

/-! ### append(v, y): behind 'at_builtin'; the goal's world is 'W.alloc' of the variadic's box -/
section
variable {P : Program} {ops : Array Oper} {rest : List Oper} {o : Oper} {a : Act} {Q : Exit → Act → World → Prop}
theorem app_one {W : World} {base : Nat} (hgd : o.guard = none) (s x : Operand) (t e : TypeId) (z : Value) (bytes : Nat)
    (ho : o.op = .call { callee := .builtin .append, args := #[s, x], argTypes := #[t, t] })
    (ht : P.underlying t = some (.slice e)) (hinfo : (P.info? e).map (fun i => (i.zero, i.size, i.bytes)) = some (some z, 1, bytes)) (hz : z.cells.size = 1)
    (v : Value) (n : Nat) (xs : List Value) (y : Value) (hs : a.eval s = v) (hx : a.eval x = .slice (some ⟨W.heap.size, 0, none⟩) 1 1) (h1 : y.oneCell' = true)
    (HO : W.ownsRow base e 1 v n xs) (hbase : base ≤ W.heap.size) (hl : (n + 1) * bytes ≤ 140737488355328) (hm : n < maxLen)
    (h : ∀ v1 w1, w1.ownsRow base e 1 v1 (n + 1) (xs ++ [y]) → W.grownBy w1 v.ownBlock → (v1.ownBlock = v.ownBlock ∨ ∃ k, v1.ownBlock = some k ∧ W.heap.size ≤ k) → wpList P ops Q rest (a.put o.dst v1) w1) :
    wpList P ops Q (o :: rest) a (W.alloc (.cells #[y] e)) := by
  obtain ⟨i0, hi, hzz⟩ := Option.map_eq_some_iff.1 hinfo
  simp only [Prod.mk.injEq] at hzz
  obtain ⟨hz0, hz1, hz2⟩ := hzz
  refine wpList_append_own_at (W.alloc (.cells #[y] e)) hgd s x t ho base e i0 z 1 bytes ht hi hz0 hz1 hz2 hz (by omega) v n xs hs (HO.alloc _) ⟨W.heap.size, 0, none⟩ 1 1 [y] hx rfl
    (cell_one_new W y e) (by simpa using h1) (by omega) hl (by simp; omega) ?_
  intro v1 w1 hown hg _ hat
  refine h v1 w1 hown (World.grownBy.trans (World.grownBy_alloc W _ _) hg) ?_
  rcases hat with hat | hat
  · exact .inl hat
  · exact .inr ⟨_, hat, by simp⟩

/-- append(v, ys...): ys a slice that is read, nil let in. -/
theorem run_append_rd {W : World} {base : Nat} (t e ty : TypeId) (z : Value) (sz bytes : Nat) (hsz : 0 < sz)
    (ht : P.underlying t = some (.slice e)) (hinfo : (P.info? e).map (fun i => (i.zero, i.size, i.bytes)) = some (some z, sz, bytes)) (hz : z.cells.size = sz)
    (v : Value) (n : Nat) (xs ys : List Value) (A : Option Addr) (m c : Nat) (h1 : ∀ u ∈ ys, u.oneCell' = true)
    (HO : W.ownsRow base e sz v n xs) (HR : Rd sz W A m c ys) (hbase : base ≤ W.heap.size) (hl : (n + m) * bytes ≤ 140737488355328) (hm : n + m ≤ maxLen) :
    ∃ v1 w1, (Builtin.append_ #[t, t] ty #[v, .slice A m c]).run P W = .ok v1 w1 ∧ w1.ownsRow base e sz v1 (n + m) (xs ++ ys) ∧ W.grownBy w1 v.ownBlock ∧ (v1.ownBlock = v.ownBlock ∨ ∃ k, v1.ownBlock = some k ∧ W.heap.size ≤ k) := by
  obtain ⟨i0, hi, hzz⟩ := Option.map_eq_some_iff.1 hinfo
  simp only [Prod.mk.injEq] at hzz
  obtain ⟨hz0, hz1, hz2⟩ := hzz
  rcases Nat.eq_zero_or_pos m with rfl | hpos
  · obtain rfl : ys = [] := List.eq_nil_of_length_eq_zero (by simpa using HR.len)
    refine ⟨v, W, ?_, by simpa using HO, ⟨rfl, rfl, rfl, Nat.le_refl _, fun _ _ _ => rfl⟩, .inl rfl⟩
    rcases HO.2 with ⟨rfl, hn⟩ | ⟨g, cap, cur, rfl, _, _, hnc, _⟩
    · cases A <;> simp [Builtin.append_, run_underlying ht, sizeOf, typeInfo, hi, Builtin.lenOf, Builtin.firstCells, loadCells, loadCellsFrom]
    · cases A <;> simp [Builtin.append_, run_underlying ht, sizeOf, typeInfo, hi, Builtin.lenOf, Builtin.firstCells, loadCells, loadCellsFrom, hnc, storeCells]
  · obtain ⟨b, o, rfl, hcells⟩ := HR.cells hpos
    obtain ⟨v1, w1, hr, h2, h3, _, h5⟩ := run_append_own_at (P := P) W base t ty e i0 z sz bytes ht hi hz0 hz1 hz2 hz hsz v n xs HO ⟨b, o, none⟩ m c ys HR.len (fun j u hu => by rw [Addr.add_lit]; exact hcells j u hu) h1 hm hl hbase
    refine ⟨v1, w1, hr, h2, h3, ?_⟩
    rcases h5 with h5 | h5
    · exact .inl h5
    · exact .inr ⟨_, h5, Nat.le_refl _⟩
theorem app_rd {W : World} {base : Nat} (hgd : o.guard = none) (s x : Operand) (t e : TypeId) (z : Value) (sz bytes : Nat) (hsz : 0 < sz)
    (ho : o.op = .call { callee := .builtin .append, args := #[s, x], argTypes := #[t, t] })
    (ht : P.underlying t = some (.slice e)) (hinfo : (P.info? e).map (fun i => (i.zero, i.size, i.bytes)) = some (some z, sz, bytes)) (hz : z.cells.size = sz)
    (v : Value) (n : Nat) (xs ys : List Value) (A : Option Addr) (m c : Nat) (hs : a.eval s = v) (hx : a.eval x = .slice A m c) (h1 : ∀ u ∈ ys, u.oneCell' = true)
    (HO : W.ownsRow base e sz v n xs) (HR : Rd sz W A m c ys) (hbase : base ≤ W.heap.size) (hl : (n + m) * bytes ≤ 140737488355328) (hm : n + m ≤ maxLen)
    (h : ∀ v1 w1, w1.ownsRow base e sz v1 (n + m) (xs ++ ys) → W.grownBy w1 v.ownBlock → (v1.ownBlock = v.ownBlock ∨ ∃ k, v1.ownBlock = some k ∧ W.heap.size ≤ k) → wpList P ops Q rest (a.put o.dst v1) w1) :
    wpList P ops Q (o :: rest) a W := by
  obtain ⟨v1, w1, hr, h2, h3, h4⟩ := run_append_rd (P := P) t e o.type z sz bytes hsz ht hinfo hz v n xs ys A m c h1 HO HR hbase hl hm
  refine wpList_plain hgd fun K hK => ?_
  unfold Oper.wp execOp
  simp only [ho, resolve, invoke, builtin, Sem.run_bind, Sem.run_pure, Result.andThen_ok, List.map_toArray, List.map_cons, List.map_nil, hs, hx, hr]
  exact hK _ _ (h v1 w1 h2 h3 h4)

/-- append(v, s...): s a string. -/
theorem app_str {W : World} {base : Nat} (hgd : o.guard = none) (sl x : Operand) (t u : TypeId) (e : TypeId)
    (ho : o.op = .call { callee := .builtin .append, args := #[sl, x], argTypes := #[t, u] })
    (ht : P.underlying t = some (.slice e)) (hu : P.underlying u = some .string) (hinfo : (P.info? e).map (fun i => (i.zero, i.size, i.bytes)) = some (some (.int .u8 0), 1, 1))
    (v : Value) (l : List UInt8) (s : ByteArray) (hs : a.eval sl = v) (hx : a.eval x = .string s)
    (HO : W.ownsRow base e 1 v l.length (bvs l)) (hbase : base ≤ W.heap.size) (hl : l.length + s.size ≤ 140737488355328)
    (h : ∀ v1 w1, w1.ownsRow base e 1 v1 (l ++ s.data.toList).length (bvs (l ++ s.data.toList)) → W.grownBy w1 v.ownBlock → (v1.ownBlock = v.ownBlock ∨ ∃ k, v1.ownBlock = some k ∧ W.heap.size ≤ k) → wpList P ops Q rest (a.put o.dst v1) w1) :
    wpList P ops Q (o :: rest) a W := by
  obtain ⟨i0, hi, hzz⟩ := Option.map_eq_some_iff.1 hinfo
  simp only [Prod.mk.injEq] at hzz
  obtain ⟨hz0, hz1, hz2⟩ := hzz
  have hcs : Lib.strCells s = bvs s.data.toList := rfl
  have hlen : (l ++ s.data.toList).length = l.length + s.size := by rw [List.length_append]; rfl
  have hrun : ∃ v1 w1, (Builtin.append_ #[t, u] o.type #[v, .string s]).run P W = .ok v1 w1 ∧ w1.ownsRow base e 1 v1 (l ++ s.data.toList).length (bvs (l ++ s.data.toList)) ∧ W.grownBy w1 v.ownBlock ∧ (v1.ownBlock = v.ownBlock ∨ ∃ k, v1.ownBlock = some k ∧ W.heap.size ≤ k) := by
    obtain ⟨v1, w1, hr, h2, h3, h4⟩ := Lib.run_append_own_string (P := P) W base t u o.type e i0 ht hu hi hz0 hz1 hz2 v l.length (bvs l) HO s (by simp only [maxLen]; omega) (by omega) hbase
    refine ⟨v1, w1, hr, by rw [hlen, bvs_append]; exact h2, h3, ?_⟩
    by_cases hs0 : s.size = 0
    · left
      have hd : s.data.toList = [] := List.eq_nil_of_length_eq_zero hs0
      have hr2 : (Builtin.append_ #[t, u] o.type #[v, .string s]).run P W = .ok v W := by
        rcases HO.2 with ⟨rfl, hn⟩ | ⟨g, cap, cur, rfl, _, _, hnc, _⟩
        · simp [Builtin.append_, run_underlying ht, run_underlying hu, sizeOf, typeInfo, hi, hz1, Builtin.lenOf, Builtin.firstCells, hs0, hd]
        · simp [Builtin.append_, run_underlying ht, run_underlying hu, sizeOf, typeInfo, hi, hz1, Builtin.lenOf, Builtin.firstCells, hs0, hd, hnc, storeCells]
      rw [hr2] at hr
      injection hr with hv _
      rw [hv]
    · rcases HO.2 with ⟨rfl, hn⟩ | ⟨g, cap, cur, rfl, hbg, hg, hnc, hcm, hcs', htake⟩
      · right
        have hr2 := run_append_nil_string (P := P) W t u o.type e i0 (.int .u8 0) ht hu hi hz0 s (by omega) (by omega) (by rw [hz2]; omega)
        rw [hr2] at hr
        injection hr with hv _
        rw [← hv]
        exact ⟨W.heap.size, rfl, Nat.le_refl _⟩
      · by_cases hroom : l.length + s.size ≤ cap
        · left
          have hr2 := Lib.run_append_room_string (P := P) W t u o.type e i0 ht hu hi hz1 g l.length cap cur hg s hroom (by omega)
          rw [hr2] at hr
          injection hr with hv _
          rw [← hv]
          rfl
        · right
          have hr2 := Lib.run_append_grow_string (P := P) W t u o.type e i0 (.int .u8 0) ht hu hi hz0 ⟨g, 0, none⟩ l.length cap (bvs l) (by rw [bvs_length, hz1, Nat.mul_one]) (HO.cells (g := g) rfl) s (by omega) (by omega) (by rw [hz2]; exact growslice_fits (by omega) (by omega))
          rw [hr2] at hr
          injection hr with hv _
          rw [← hv]
          exact ⟨W.heap.size, rfl, Nat.le_refl _⟩
  obtain ⟨v1, w1, hr, h2, h3, h4⟩ := hrun
  refine wpList_plain hgd fun K hK => ?_
  unfold Oper.wp execOp
  simp only [ho, resolve, invoke, builtin, Sem.run_bind, Sem.run_pure, Result.andThen_ok, List.map_toArray, List.map_cons, List.map_nil, hs, hx, hr]
  exact hK _ _ (h v1 w1 h2 h3 h4)
end

end Go.Proofs.Ytbkncfedahifkaa
