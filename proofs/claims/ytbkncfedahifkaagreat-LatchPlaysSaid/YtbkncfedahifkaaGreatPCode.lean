/-
  Texts that stand in one: CodeSpec, Base, Writer, WNum, WInt, WText, Reader, RNum, RInt, RTry, ROuter, Known2.
-/
import Derived.Below
import Derived.Lib.Zigzag
import Derived.Test.YtbkncfedahifkaaGreatProg
import Derived.WalkKit
import Derived.KernelRfl
import Derived.Lib.Hide
import Derived.Lib.ConvBytes
import Derived.Lib.AppendStr
import Derived.Maps.AppendAt
import Derived.Deep.Draws
import Derived.Laws.BytesArg
import Derived.Laws.OwnMore
import Derived.WalkSpells
import Derived.WalkLawsBesides
import Derived.BigQuiet
import Derived.Defers
import Derived.Recover
/-
  The plain side of package code: numbers as bytes, and back. No program stands here.
-/
namespace Go.Proofs.YtbkncfedahifkaaGreat

/-- A number's bytes: seven bits a byte, the lowest first, the eighth set but on the last one. -/
def encN (n : Nat) : List UInt8 := if n < 128 then [UInt8.ofNat n] else UInt8.ofNat (n % 128 + 128) :: encN (n / 128)
termination_by n
decreasing_by omega

theorem encN_small {n : Nat} (h : n < 128) : encN n = [UInt8.ofNat n] := by rw [encN, if_pos h]
theorem encN_big {n : Nat} (h : 128 ≤ n) : encN n = UInt8.ofNat (n % 128 + 128) :: encN (n / 128) := by rw [encN, if_neg (by omega)]
theorem encN_pos (n : Nat) : 0 < (encN n).length := by rw [encN]; split <;> simp

/-- How many bytes at most. -/
theorem encN_len (k : Nat) : ∀ n, n < 128 ^ (k + 1) → (encN n).length ≤ k + 1 := by
  induction k with
  | zero => intro n h; rw [encN_small (by simpa using h)]; simp
  | succ k ih =>
    intro n h
    by_cases hn : n < 128
    · rw [encN_small hn]; simp
    · rw [encN_big (by omega)]
      have : n / 128 < 128 ^ (k + 1) := by
        rw [Nat.div_lt_iff_lt_mul (by omega)]
        rw [Nat.pow_succ] at h
        exact h
      have := ih _ this
      simp only [List.length_cons]; omega
theorem encN_len10 {n : Nat} (h : n < 18446744073709551616) : (encN n).length ≤ 10 := encN_len 9 n (Nat.lt_trans h (by decide))

/-- Many, one behind another. -/
def encs (l : List Nat) : List UInt8 := l.flatMap encN
theorem encs_nil : encs [] = [] := rfl
theorem encs_append (a b : List Nat) : encs (a ++ b) = encs a ++ encs b := by simp [encs]
theorem encs_one (n : Nat) : encs [n] = encN n := by simp [encs]
theorem encs_take_succ (l : List Nat) (k : Nat) (h : k < l.length) : encs (l.take (k + 1)) = encs (l.take k) ++ encN l[k] := by
  rw [List.take_succ_eq_append_getElem h, encs_append, encs_one]
theorem encs_len (l : List Nat) (h : ∀ x ∈ l, x < 18446744073709551616) : (encs l).length ≤ 10 * l.length := by
  induction l with
  | nil => simp [encs]
  | cons a l ih =>
    have h1 := encN_len10 (h a (by simp))
    have h2 := ih (fun x hx => h x (by simp [hx]))
    simp only [encs, List.flatMap_cons, List.length_append, List.length_cons] at h2 ⊢
    omega

/-- An integer's number. -/
def zz (x : Int) : Nat := if x < 0 then (-(x + 1) * 2 + 1).toNat else (x * 2).toNat
theorem zz_lt {x : Int} (h0 : -9223372036854775808 ≤ x) (h1 : x ≤ 9223372036854775807) : zz x < 18446744073709551616 := by
  unfold zz
  split <;> omega
/-- The integer of a number. -/
def unzz (n : Nat) : Int := if n % 2 = 1 then -((n / 2 : Nat) : Int) - 1 else ((n / 2 : Nat) : Int)
theorem unzz_zz (x : Int) : unzz (zz x) = x := by
  unfold unzz zz
  split <;> split <;> omega
theorem zz_inj {x y : Int} (h : zz x = zz y) : x = y := by rw [← unzz_zz x, h, unzz_zz]

/-- A text's bytes. -/
def encT (s : List UInt8) : List UInt8 := encN s.length ++ s
def encTs (l : List (List UInt8)) : List UInt8 := l.flatMap encT
theorem encTs_append (a b : List (List UInt8)) : encTs (a ++ b) = encTs a ++ encTs b := by simp [encTs]
theorem encTs_one (s : List UInt8) : encTs [s] = encT s := by simp [encTs]
theorem encTs_take_succ (l : List (List UInt8)) (k : Nat) (h : k < l.length) : encTs (l.take (k + 1)) = encTs (l.take k) ++ encT l[k] := by
  rw [List.take_succ_eq_append_getElem h, encTs_append, encTs_one]
def bulk (l : List (List UInt8)) : Nat := (l.map List.length).sum
theorem encT_len (s : List UInt8) (h : s.length < 18446744073709551616) : (encT s).length ≤ 10 + s.length := by
  have := encN_len10 h
  simp only [encT, List.length_append]
  omega
theorem encTs_len (l : List (List UInt8)) (h : ∀ x ∈ l, x.length < 18446744073709551616) : (encTs l).length ≤ 10 * l.length + bulk l := by
  induction l with
  | nil => simp [encTs, bulk]
  | cons a l ih =>
    have h1 := encT_len a (h a (by simp))
    have h2 := ih (fun x hx => h x (by simp [hx]))
    simp only [encTs, bulk, List.flatMap_cons, List.length_append, List.length_cons, List.map_cons, List.sum_cons] at h2 ⊢
    omega
theorem bulk_take (l : List (List UInt8)) (k : Nat) (h : k < l.length) : bulk (l.take k) + l[k].length ≤ bulk l := by
  have e : l = l.take k ++ l[k] :: l.drop (k + 1) := by rw [← List.drop_eq_getElem_cons h, List.take_append_drop]
  have : bulk l = bulk (l.take k ++ l[k] :: l.drop (k + 1)) := by rw [← e]
  rw [this]
  simp only [bulk, List.map_append, List.sum_append, List.map_cons, List.sum_cons]
  omega

/-- A truth's bytes. -/
def encB (b : Bool) : List UInt8 := [if b then 1 else 0]
theorem encB_num (b : Bool) : encB b = encN (if b then 1 else 0) := by cases b <;> (rw [encN_small (by decide)]; rfl)

/-! ### reading -/
def decG (k m : Nat) : List UInt8 → Option (Nat × List UInt8)
  | [] => none
  | c :: r => if 10 ≤ k ∨ (k = 9 ∧ 1 < c.toNat) then none
    else if c.toNat < 128 then (if c.toNat = 0 ∧ k ≠ 0 then none else some (m + c.toNat * 128 ^ k, r))
    else decG (k + 1) (m + (c.toNat - 128) * 128 ^ k) r
def decN (l : List UInt8) : Option (Nat × List UInt8) := decG 0 0 l

/-- A text. -/
def decT (l : List UInt8) : Option (List UInt8 × List UInt8) := (decN l).bind fun p => if p.1 ≤ p.2.length then some (p.2.take p.1, p.2.drop p.1) else none
/-- A truth. -/
def decB : List UInt8 → Option (Bool × List UInt8)
  | [] => none
  | c :: r => if c.toNat ≤ 1 then some (c.toNat == 1, r) else none

/-- No number is above 64 bits. -/
theorem decG_lt (l : List UInt8) : ∀ k m x r, m < 128 ^ k → k ≤ 10 → decG k m l = some (x, r) → x < 18446744073709551616 := by
  induction l with
  | nil => intro k m x r hm hk h; simp [decG] at h
  | cons c l ih =>
    intro k m x r hm hk h
    rw [decG] at h
    split at h
    · cases h
    · rename_i hn
      have hk9 : k < 9 ∨ (k = 9 ∧ c.toNat ≤ 1) := by omega
      have hb : ∀ y, y ≤ 127 → (k = 9 → y ≤ 1) → m + y * 128 ^ k < 18446744073709551616 := by
        intro y hy h9
        rcases hk9 with hk9 | ⟨rfl, _⟩
        · have h1 : 128 ^ k ≤ 128 ^ 8 := Nat.pow_le_pow_right (by omega) (by omega)
          have h2 : y * 128 ^ k ≤ 127 * 128 ^ 8 := Nat.mul_le_mul hy h1
          omega
        · have h2 : y * 128 ^ 9 ≤ 1 * 128 ^ 9 := Nat.mul_le_mul_right _ (h9 rfl)
          omega
      split at h
      · split at h
        · cases h
        · injection h with h
          injection h with h1 h2
          rw [← h1]
          exact hb _ (by omega) (by omega)
      · have hk' : k < 9 := by omega
        refine ih (k + 1) _ x r ?_ (by omega) h
        have hc := c.toNat_lt
        have h1 : (c.toNat - 128) * 128 ^ k ≤ 127 * 128 ^ k := Nat.mul_le_mul_right _ (by omega)
        rw [Nat.pow_succ]
        omega
theorem decN_lt {l r : List UInt8} {x : Nat} (h : decN l = some (x, r)) : x < 18446744073709551616 := decG_lt l 0 0 x r (by simp) (by omega) h
theorem decG_short (l : List UInt8) : ∀ k m x r, decG k m l = some (x, r) → r.length < l.length := by
  induction l with
  | nil => intro k m x r h; simp [decG] at h
  | cons c l ih =>
    intro k m x r h
    rw [decG] at h
    split at h
    · cases h
    · split at h
      · split at h
        · cases h
        · injection h with h
          injection h with h1 h2
          rw [← h2]
          simp
      · have := ih _ _ _ _ h
        simp only [List.length_cons]
        omega
theorem decN_short {l r : List UInt8} {x : Nat} (h : decN l = some (x, r)) : r.length < l.length := decG_short l 0 0 x r h

theorem u8_of (n : Nat) (h : n < 256) : (UInt8.ofNat n).toNat = n := by
  rw [UInt8.toNat_ofNat']
  exact Nat.mod_eq_of_lt (by omega)
/-- What is written is read back. -/
theorem decG_encN (n : Nat) : ∀ k m r, k ≤ 9 → n * 128 ^ k < 18446744073709551616 → (n = 0 → k = 0) → decG k m (encN n ++ r) = some (m + n * 128 ^ k, r) := by
  induction n using Nat.strongRecOn with
  | _ n ih =>
    intro k m r hk hn h0
    have h9 : k = 9 → n ≤ 1 := by
      rintro rfl
      have e : (128 : Nat) ^ 9 = 9223372036854775808 := by decide
      rw [e] at hn
      omega
    by_cases h : n < 128
    · rw [encN_small h, List.singleton_append, decG, u8_of n (by omega), if_neg (by omega), if_pos h, if_neg (by omega)]
    · have hk8 : k < 9 := by omega
      rw [encN_big (by omega), List.cons_append, decG, u8_of _ (by omega), if_neg (by omega), if_neg (by omega), ih (n / 128) (by omega) (k + 1) _ r (by omega) ?_ (by omega)]
      · congr 2
        have e1 : n / 128 * 128 ^ (k + 1) = n / 128 * 128 * 128 ^ k := by rw [Nat.pow_succ, Nat.mul_comm (128 ^ k), Nat.mul_assoc]
        rw [e1, Nat.add_assoc, ← Nat.add_mul]
        congr 2
        omega
      · have e1 : n / 128 * 128 ^ (k + 1) = n / 128 * 128 * 128 ^ k := by rw [Nat.pow_succ, Nat.mul_comm (128 ^ k), Nat.mul_assoc]
        rw [e1]
        have : n / 128 * 128 * 128 ^ k ≤ n * 128 ^ k := Nat.mul_le_mul_right _ (by omega)
        omega
theorem decN_encN (n : Nat) (r : List UInt8) (h : n < 18446744073709551616) : decN (encN n ++ r) = some (n, r) := by
  have := decG_encN n 0 0 r (by omega) (by simpa using h) (by simp)
  simpa [decN] using this
theorem encN_inj {a b : Nat} (ha : a < 18446744073709551616) (hb : b < 18446744073709551616) (h : encN a = encN b) : a = b := by
  have h1 := decN_encN a [] ha
  have h2 := decN_encN b [] hb
  rw [h, h2] at h1
  injection h1 with h1
  injection h1 with h1
  exact h1.symm
theorem encN_mono (a : Nat) : ∀ b, a ≤ b → (encN a).length ≤ (encN b).length := by
  induction a using Nat.strongRecOn with
  | _ a ih =>
    intro b h
    by_cases hb : b < 128
    · rw [encN_small hb, encN_small (show a < 128 by omega)]; simp
    · by_cases ha : a < 128
      · rw [encN_small ha]; have := encN_pos b; simp; omega
      · rw [encN_big (n := a) (by omega), encN_big (n := b) (by omega)]
        have := ih (a / 128) (by omega) (b / 128) (by omega)
        simp only [List.length_cons]
        omega
theorem decT_encT (s r : List UInt8) (h : s.length < 18446744073709551616) : decT (encT s ++ r) = some (s, r) := by
  unfold decT encT
  rw [List.append_assoc, decN_encN _ _ h, Option.bind_some, if_pos (by simp)]
  simp
theorem decB_encB (b : Bool) (r : List UInt8) : decB (encB b ++ r) = some (b, r) := by cases b <;> rfl

end Go.Proofs.YtbkncfedahifkaaGreat

/-
  Words used by all texts of this seat: bytes as cells, what changes at most some blocks, slices that are read.
-/
set_option linter.unusedVariables false
set_option linter.unusedSimpArgs false
namespace Go.Proofs.YtbkncfedahifkaaGreat
open Go.RowKit

/-! ### bytes as cells -/
def bv (c : UInt8) : Value := .int .u8 (c.toNat : Int)
def bvs (l : List UInt8) : List Value := l.map bv
theorem bvs_length (l : List UInt8) : (bvs l).length = l.length := by simp [bvs]
theorem bvs_append (a b : List UInt8) : bvs (a ++ b) = bvs a ++ bvs b := by simp [bvs]
theorem bvs_nil : bvs [] = [] := rfl
theorem bvs_get (l : List UInt8) (j : Nat) : (bvs l)[j]? = (l[j]?).map bv := by simp [bvs]
theorem bv_of (n : Int) (h0 : 0 ≤ n) (h1 : n < 256) : ∃ c : UInt8, Value.int .u8 n = bv c ∧ (c.toNat : Int) = n := by
  refine ⟨UInt8.ofNat n.toNat, ?_, ?_⟩
  · simp only [bv, UInt8.toNat_ofNat']
    congr 1
    have : n.toNat % 2 ^ 8 = n.toNat := Nat.mod_eq_of_lt (by omega)
    rw [this]
    omega
  · rw [UInt8.toNat_ofNat']
    have : n.toNat % 2 ^ 8 = n.toNat := Nat.mod_eq_of_lt (by omega)
    rw [this]
    omega
theorem bv_one (c : UInt8) : (bv c).oneCell' = true := rfl
theorem bvs_one (l : List UInt8) : ∀ u ∈ bvs l, u.oneCell' = true := by
  intro u hu
  simp only [bvs, List.mem_map] at hu
  obtain ⟨c, _, rfl⟩ := hu
  rfl
theorem u8_lt (c : UInt8) : (c.toNat : Int) < 256 := by have := c.toNat_lt; omega
theorem u8_ge (c : UInt8) : (0 : Int) ≤ (c.toNat : Int) := by omega

/-! ### what changes at most the blocks of F -/
structure Ch (F : List Nat) (w w' : World) : Prop where
  os : w'.os = w.os
  tape : w'.tape = w.tape
  output : w'.output = w.output
  size : w.heap.size ≤ w'.heap.size
  block : ∀ k, k < w.heap.size → k ∉ F → w'.heap[k]? = w.heap[k]?

theorem Ch.refl (F : List Nat) (w : World) : Ch F w w := ⟨rfl, rfl, rfl, Nat.le_refl _, fun _ _ _ => rfl⟩
theorem Ch.trans {F G : List Nat} {a b c : World} (h : Ch F a b) (k : Ch G b c) (hG : ∀ x ∈ G, x ∈ F ∨ a.heap.size ≤ x) : Ch F a c :=
  ⟨k.os.trans h.os, k.tape.trans h.tape, k.output.trans h.output, Nat.le_trans h.size k.size, fun i hi hF =>
    (k.block i (Nat.lt_of_lt_of_le hi h.size) (fun hx => by rcases hG i hx with h' | h'; exact hF h'; omega)).trans (h.block i hi hF)⟩
theorem Ch.trans' {F : List Nat} {a b c : World} (h : Ch F a b) (k : Ch F b c) : Ch F a c := h.trans k (fun _ h => .inl h)
theorem Ch.mono {F G : List Nat} {a b : World} (h : Ch F a b) (hs : ∀ x ∈ F, x ∈ G ∨ a.heap.size ≤ x) : Ch G a b :=
  ⟨h.os, h.tape, h.output, h.size, fun i hi hG => h.block i hi (fun hx => by rcases hs i hx with h' | h'; exact hG h'; omega)⟩
theorem Ch.drew {F : List Nat} {a w : World} (h : Ch F a w) : Ch F a w.drew := ⟨h.os, h.tape, h.output, h.size, h.block⟩
theorem Ch.drewN {F : List Nat} {a w : World} (h : Ch F a w) (n : Nat) : Ch F a (w.drewN n) := ⟨h.os, h.tape, h.output, h.size, h.block⟩
theorem Ch.alloc {F : List Nat} {a w : World} (h : Ch F a w) (o : Obj) : Ch F a (w.alloc o) :=
  h.trans (G := []) ⟨rfl, rfl, rfl, by simp, fun k hk _ => Below.heap_alloc w o k hk⟩ (by simp)
theorem Ch.setCell {F : List Nat} {a w : World} (h : Ch F a w) (p : Addr) (u : Value) (hp : p.block ∈ F ∨ a.heap.size ≤ p.block) : Ch F a (w.setCell p u) :=
  h.trans (G := [p.block]) ⟨rfl, rfl, rfl, by simp, fun k _ hF => heap_setCell_other w p k u (by simpa using hF)⟩ (by simpa using hp)
theorem Ch.grown {F : List Nat} {a w w' : World} (h : Ch F a w) {row : Option Nat} (hg : w.grownBy w' row) (hr : ∀ k, row = some k → k ∈ F ∨ a.heap.size ≤ k) : Ch F a w' :=
  h.trans (G := row.toList) ⟨hg.os, hg.tape, hg.output, hg.size, fun k hk hF => hg.block k hk (fun e => hF (by simp [← e]))⟩ (fun x hx => hr x (by simpa [eq_comm] using hx))
theorem Ch.of_below {w w' : World} (h : Below w.heap.size w w') (F : List Nat) : Ch F w w' := ⟨h.os, h.tape, h.output, h.size, fun k hk _ => h.block k hk⟩
theorem Ch.below {F : List Nat} {w w' : World} (h : Ch F w w') {B : Nat} (hB : B ≤ w.heap.size) (hF : ∀ k ∈ F, B ≤ k) : Below B w w' :=
  ⟨h.os, h.tape, h.output, h.size, fun k hk => h.block k (by omega) (fun hx => by have := hF k hx; omega)⟩
theorem Ch.nil_below {w w' : World} (h : Ch [] w w') : Below w.heap.size w w' := h.below (Nat.le_refl _) (by simp)
theorem Ch.cell {F : List Nat} {w w' : World} (h : Ch F w w') {a : Addr} {v : Value} (hc : w.cell? a = some v) (hF : a.block ∉ F) : w'.cell? a = some v :=
  (World.cell?_of_block (h.block a.block (World.block_lt_of_cell? w a hc) hF)).trans hc
theorem Ch.at_ {F : List Nat} {w w' : World} (h : Ch F w w') {k : Nat} {o : Obj} (hk : w.heap[k]? = some o) (hF : k ∉ F) : w'.heap[k]? = some o :=
  (h.block k (Array.getElem?_eq_some_iff.1 hk).1 hF).trans hk
/-- 'Below', behind a change of blocks that are new to it. -/
theorem Below.ch {B : Nat} {F : List Nat} {a w w' : World} (h : Below B a w) (k : Ch F w w') (hB : B ≤ w.heap.size) (hF : ∀ x ∈ F, B ≤ x) : Below B a w' := h.trans (k.below hB hF)

theorem lt_of_at {w : World} {k : Nat} {o : Obj} (h : w.heap[k]? = some o) : k < w.heap.size := (Array.getElem?_eq_some_iff.1 h).1
theorem cell_at {w : World} {b : Nat} {cs : Array Value} {t : TypeId} {fr : Nat × Nat} (h : w.heap[b]? = some (.cells cs t fr)) (j : Nat) {v : Value} (hj : cs[j]? = some v) : w.cell? ⟨b, j, none⟩ = some v :=
  (cell_of_row w b j cs t fr h).trans hj
theorem free_at {w : World} {b : Nat} {cs : Array Value} {t : TypeId} (h : w.heap[b]? = some (.cells cs t (0, 0))) (j : Nat) : w.frozen? ⟨b, j, none⟩ = false := frozen_of_row w b j cs t h

/-! ### a slice that is read: n elements of sz cells -/
structure Rd (sz : Nat) (w : World) (A : Option Addr) (n c : Nat) (xs : List Value) : Prop where
  len : xs.length = n * sz
  cap : n ≤ c
  max : c ≤ maxLen
  cells : 0 < n → ∃ b o, A = some ⟨b, o, none⟩ ∧ ∀ j u, xs[j]? = some u → w.cell? ⟨b, o + j, none⟩ = some u

theorem Rd.keep {sz : Nat} {w w' : World} {A : Option Addr} {n c : Nat} {xs : List Value} (h : Rd sz w A n c xs) {F : List Nat} (hc : Ch F w w') (hF : ∀ a, A = some a → a.block ∉ F) : Rd sz w' A n c xs :=
  ⟨h.len, h.cap, h.max, fun hn => by
    obtain ⟨b, o, e, hcell⟩ := h.cells hn
    exact ⟨b, o, e, fun j u hu => hc.cell (hcell j u hu) (hF ⟨b, o, none⟩ e)⟩⟩
theorem Rd.below {sz : Nat} {w w' : World} {A : Option Addr} {n c : Nat} {xs : List Value} (h : Rd sz w A n c xs) (hb : Below w.heap.size w w') : Rd sz w' A n c xs :=
  h.keep (Ch.of_below hb []) (by simp)
theorem Rd.empty (sz : Nat) (w : World) (A : Option Addr) (c : Nat) (hc : c ≤ maxLen) : Rd sz w A 0 c [] := ⟨by simp, Nat.zero_le _, hc, fun h => by omega⟩
theorem Rd.take {sz : Nat} {w : World} {A : Option Addr} {n c : Nat} {xs : List Value} (h : Rd sz w A n c xs) (m : Nat) (hm : m ≤ n) : Rd sz w A m c (xs.take (m * sz)) := by
  have hl := h.len
  have hc := h.cap
  have hms : m * sz ≤ n * sz := Nat.mul_le_mul_right _ hm
  refine ⟨by rw [List.length_take]; omega, by omega, h.max, fun h0 => ?_⟩
  obtain ⟨b, o, e, hcell⟩ := h.cells (by omega)
  refine ⟨b, o, e, fun j u hu => hcell j u ?_⟩
  rw [List.getElem?_take] at hu
  split at hu
  · exact hu
  · cases hu
theorem Rd.drop {sz : Nat} {w : World} {A : Option Addr} {n c : Nat} {xs : List Value} (h : Rd sz w A n c xs) (m : Nat) (hm : m ≤ n) : Rd sz w (if c = m then A else A.map (·.add (m * sz))) (n - m) (c - m) (xs.drop (m * sz)) := by
  have hl := h.len
  have hc := h.cap
  refine ⟨by rw [List.length_drop, hl, Nat.sub_mul], by omega, by have := h.max; omega, fun h0 => ?_⟩
  obtain ⟨b, o, rfl, hcell⟩ := h.cells (by omega)
  rw [if_neg (by omega)]
  refine ⟨b, o + m * sz, by simp [Addr.add_lit], fun j u hu => ?_⟩
  rw [List.getElem?_drop] at hu
  have := hcell (m * sz + j) u hu
  rwa [← Nat.add_assoc] at this
/-- What the walk is told of 'x[m:]': its address is a letter. -/
theorem cut_from {P : Program} (t e : TypeId) {i : TypeInfo} {sz : Nat} (ht : P.underlying t = some (.slice e)) (hi : P.info? e = some i) (hsz : i.size = sz) (A : Option Addr) (n c m : Nat) (hm : m ≤ n) :
    ∃ A' : Option Addr, (∀ (kl : IntKind) (W : World), (Instr.slice t (.slice A n c) (some (.int kl (m : Int))) none none).run P W = .ok (.slice A' (n - m) (c - m)) W) ∧
      (∀ (w : World) (xs : List Value), Rd sz w A n c xs → Rd sz w A' (n - m) (c - m) (xs.drop (m * sz))) ∧ (∀ a', A' = some a' → ∃ a, A = some a ∧ a'.block = a.block) := by
  refine ⟨if c = m then A else A.map (·.add (m * sz)), fun kl W => ?_, fun w l h => h.drop m hm, fun a' ha => ?_⟩
  · have hel : P.elem t = e := by simp [Program.elem, ht]
    have hu : P.underlying t = some (.slice (P.elem t)) := by rw [hel]; exact ht
    rw [run_slice_l W t A n c hu kl (m : Int) (Int.natCast_nonneg _) (by omega), hel]
    simp [sizeOf, typeInfo, hi, hsz, sliced, Result.andThen]
  · split at ha
    · exact ⟨a', ha, rfl⟩
    · rcases A with _ | a
      · simp at ha
      · refine ⟨a, rfl, ?_⟩
        simp only [Option.map_some, Option.some.injEq] at ha
        subst ha
        unfold Addr.add
        split <;> rfl

/-- A slice of bytes that is read. -/
abbrev RdB (w : World) (A : Option Addr) (n c : Nat) (l : List UInt8) : Prop := Rd 1 w A n c (bvs l)
theorem RdB.length {w : World} {A : Option Addr} {n c : Nat} {l : List UInt8} (h : RdB w A n c l) : l.length = n := by have := h.len; simpa [bvs] using this
theorem bvs_take (l : List UInt8) (m : Nat) : (bvs l).take m = bvs (l.take m) := by simp [bvs]
theorem bvs_drop (l : List UInt8) (m : Nat) : (bvs l).drop m = bvs (l.drop m) := by simp [bvs]
theorem RdB.cell {w : World} {A : Option Addr} {n c : Nat} {l : List UInt8} (h : RdB w A n c l) (h0 : 0 < n) : ∃ b o, A = some ⟨b, o, none⟩ ∧ ∀ j (hj : j < l.length), w.cell? ⟨b, o + j, none⟩ = some (.int .u8 (l[j].toNat : Int)) := by
  obtain ⟨b, o, e, hc⟩ := h.cells h0
  exact ⟨b, o, e, fun j hj => hc j _ (by rw [bvs_get, List.getElem?_eq_getElem hj]; rfl)⟩

/-! ### a row of the call's own -/
theorem own_rd {w : World} {base n : Nat} {e : TypeId} {sz : Nat} {A : Option Addr} {c : Nat} {xs : List Value} (h : w.ownsRow base e sz (.slice A n c) n xs) : Rd sz w A n c xs := by
  rcases h.2 with ⟨h1, rfl⟩ | ⟨g, cap, cur, h1, _, hh, h2, h3, h4, htake⟩
  · simp only [Value.slice.injEq] at h1
    obtain ⟨rfl, _, rfl⟩ := h1
    exact ⟨h.1, Nat.le_refl _, by simp [maxLen], fun h => by omega⟩
  · simp only [Value.slice.injEq] at h1
    obtain ⟨rfl, _, rfl⟩ := h1
    refine ⟨h.1, h2, h3, fun _ => ⟨g, 0, rfl, fun j u hu => ?_⟩⟩
    have := h.cells (g := g) rfl j u hu
    rwa [Addr.add_lit] at this
theorem own_slice {w : World} {base n : Nat} {e : TypeId} {size : Nat} {v : Value} {xs : List Value} (h : w.ownsRow base e size v n xs) : ∃ A c, v = .slice A n c := by
  rcases h.2 with ⟨rfl, rfl⟩ | ⟨g, cap, cur, rfl, _⟩
  · exact ⟨none, 0, rfl⟩
  · exact ⟨_, cap, rfl⟩
theorem own_lt {w : World} {base : Nat} {e : TypeId} {size n : Nat} {v : Value} {xs : List Value} (h : w.ownsRow base e size v n xs) (k : Nat) (hk : v.ownBlock = some k) : k < w.heap.size := (h.lt k hk).2
theorem own_ge {w : World} {base : Nat} {e : TypeId} {size n : Nat} {v : Value} {xs : List Value} (h : w.ownsRow base e size v n xs) (k : Nat) (hk : v.ownBlock = some k) : base ≤ k := (h.lt k hk).1
theorem own_keep {w w' : World} {base : Nat} {e : TypeId} {size n : Nat} {v : Value} {xs : List Value} (h : w.ownsRow base e size v n xs) {F : List Nat} (hc : Ch F w w') (hF : ∀ k, v.ownBlock = some k → k ∉ F) : w'.ownsRow base e size v n xs := by
  refine ⟨h.1, ?_⟩
  rcases h.2 with hn | ⟨g, cap, cur, rfl, hb, hgg, rest⟩
  · exact .inl hn
  · exact .inr ⟨g, cap, cur, rfl, hb, hc.at_ hgg (hF g rfl), rest⟩
theorem own_rebase {w : World} {base base' : Nat} {e : TypeId} {size n : Nat} {v : Value} {xs : List Value} (h : w.ownsRow base e size v n xs) (hb : ∀ k, v.ownBlock = some k → base' ≤ k) : w.ownsRow base' e size v n xs := by
  refine ⟨h.1, ?_⟩
  rcases h.2 with hn | ⟨g, cap, cur, rfl, _, rest⟩
  · exact .inl hn
  · exact .inr ⟨g, cap, cur, rfl, hb g rfl, rest⟩

theorem own_snoc {w : World} {base : Nat} {e : TypeId} {v : Value} {l : List UInt8} {z : Int} {c : UInt8} (h : w.ownsRow base e 1 v (l.length + 1) (bvs l ++ [.int .u8 z])) (hz : z = (c.toNat : Int)) : w.ownsRow base e 1 v (l ++ [c]).length (bvs (l ++ [c])) := by
  subst hz
  rw [List.length_append, bvs_append]
  exact h

theorem strOfNums_bytes (l : List UInt8) : strOfNums (l.map fun c => (c.toNat : Int)) = ⟨l.toArray⟩ := by
  simp only [strOfNums, List.map_map]
  congr 2
  conv => rhs; rw [← List.map_id l]
  apply List.map_congr_left
  intro c _
  simp
/-- A slice of bytes as a string. -/
def str (l : List UInt8) : ByteArray := ⟨l.toArray⟩
theorem str_data (l : List UInt8) : (str l).data.toList = l := rfl
theorem str_size (l : List UInt8) : (str l).size = l.length := by simp [str, ByteArray.size]
theorem str_of (s : ByteArray) : str s.data.toList = s := rfl
/-- string(b): laid ahead of the walk. -/
theorem conv_str {P : Program} {w : World} {A : Option Addr} {n c : Nat} {l : List UInt8} (h : RdB w A n c l) (src e dst : TypeId) (hs : P.underlying src = some (.slice e)) (he : P.underlying e = some (.int .u8)) (hd : P.underlying dst = some .string) :
    (convert src dst (.slice A n c)).run P w = .ok (.string (str l)) w := by
  rcases Nat.eq_zero_or_pos n with rfl | hn
  · obtain rfl : l = [] := List.eq_nil_of_length_eq_zero h.length
    rcases A with _ | a
    · exact run_convert_bytes_nil w src e hs he 0 c dst hd
    · rw [run_convert_bytes_string w src dst e _ 0 c hs he hd, run_bytesToString w _ 0 c [] (by simp [loadCells, loadCellsFrom])]
      rfl
  · obtain ⟨b, o, rfl, hc⟩ := h.cell hn
    have hl := h.length
    have := run_convert_bytes_arg (P := P) w src e hs he b o n c (l.map fun c => (c.toNat : Int)) (by simpa using hl) (fun i hi => by
      rw [hc i (by omega)]
      simp [List.getD, show i < l.length by omega]) dst hd
    rw [strOfNums_bytes] at this
    exact this

/-! ### append(v, y): behind 'at_builtin'; the goal's world is 'W.alloc' of the variadic's box -/
section
variable {P : Program} {ops : Array Oper} {rest : List Oper} {o : Oper} {a : Act} {Q : Exit → Act → World → Prop}
theorem app_one {W : World} {base : Nat} (hgd : o.guard = none) (s x : Operand) (t e : TypeId) (z : Value) (bytes : Nat)
    (ho : o.op = .call { callee := .builtin .append, args := #[s, x], argTypes := #[t, t] })
    (ht : P.underlying t = some (.slice e)) (hinfo : (P.info? e).map (fun i => (i.zero, i.size, i.bytes)) = some (some z, 1, bytes)) (hz : z.cells.size = 1)
    (v : Value) (n : Nat) (xs : List Value) (y : Value) (hs : a.eval s = v) (hx : a.eval x = .slice (some ⟨W.heap.size, 0, none⟩) 1 1) (h1 : y.oneCell' = true)
    (HO : W.ownsRow base e 1 v n xs) (hbase : base ≤ W.heap.size) (hl : (n + 1) * bytes ≤ 140737488355328) (hm : n < maxLen)
    (h : ∀ v1 w1, w1.ownsRow base e 1 v1 (n + 1) (xs ++ [y]) → W.grownBy w1 v.ownBlock → (v1.ownBlock = v.ownBlock ∨ ∃ k, v1.ownBlock = some k ∧ W.heap.size ≤ k) → wpList P ops Q rest (a.put o.dst v1) w1) :
    wpList P ops Q (o :: rest) a (W.alloc (.cells #[y] e)) := by
  obtain ⟨i0, hi, hzz⟩ := Option.map_eq_some_iff.1 hinfo
  simp only [Prod.mk.injEq] at hzz
  obtain ⟨hz0, hz1, hz2⟩ := hzz
  refine wpList_append_own_at (W.alloc (.cells #[y] e)) hgd s x t ho base e i0 z 1 bytes ht hi hz0 hz1 hz2 hz (by omega) v n xs hs (HO.alloc _) ⟨W.heap.size, 0, none⟩ 1 1 [y] hx rfl
    (cell_one_new W y e) (by simpa using h1) (by omega) hl (by simp; omega) ?_
  intro v1 w1 hown hg _ hat
  refine h v1 w1 hown (World.grownBy.trans (World.grownBy_alloc W _ _) hg) ?_
  rcases hat with hat | hat
  · exact .inl hat
  · exact .inr ⟨_, hat, by simp⟩

/-- append(v, ys...): ys a slice that is read, nil let in. -/
theorem run_append_rd {W : World} {base : Nat} (t e ty : TypeId) (z : Value) (sz bytes : Nat) (hsz : 0 < sz)
    (ht : P.underlying t = some (.slice e)) (hinfo : (P.info? e).map (fun i => (i.zero, i.size, i.bytes)) = some (some z, sz, bytes)) (hz : z.cells.size = sz)
    (v : Value) (n : Nat) (xs ys : List Value) (A : Option Addr) (m c : Nat) (h1 : ∀ u ∈ ys, u.oneCell' = true)
    (HO : W.ownsRow base e sz v n xs) (HR : Rd sz W A m c ys) (hbase : base ≤ W.heap.size) (hl : (n + m) * bytes ≤ 140737488355328) (hm : n + m ≤ maxLen) :
    ∃ v1 w1, (Builtin.append_ #[t, t] ty #[v, .slice A m c]).run P W = .ok v1 w1 ∧ w1.ownsRow base e sz v1 (n + m) (xs ++ ys) ∧ W.grownBy w1 v.ownBlock ∧ (v1.ownBlock = v.ownBlock ∨ ∃ k, v1.ownBlock = some k ∧ W.heap.size ≤ k) := by
  obtain ⟨i0, hi, hzz⟩ := Option.map_eq_some_iff.1 hinfo
  simp only [Prod.mk.injEq] at hzz
  obtain ⟨hz0, hz1, hz2⟩ := hzz
  rcases Nat.eq_zero_or_pos m with rfl | hpos
  · obtain rfl : ys = [] := List.eq_nil_of_length_eq_zero (by simpa using HR.len)
    refine ⟨v, W, ?_, by simpa using HO, ⟨rfl, rfl, rfl, Nat.le_refl _, fun _ _ _ => rfl⟩, .inl rfl⟩
    rcases HO.2 with ⟨rfl, hn⟩ | ⟨g, cap, cur, rfl, _, _, hnc, _⟩
    · cases A <;> simp [Builtin.append_, run_underlying ht, sizeOf, typeInfo, hi, Builtin.lenOf, Builtin.firstCells, loadCells, loadCellsFrom]
    · cases A <;> simp [Builtin.append_, run_underlying ht, sizeOf, typeInfo, hi, Builtin.lenOf, Builtin.firstCells, loadCells, loadCellsFrom, hnc, storeCells]
  · obtain ⟨b, o, rfl, hcells⟩ := HR.cells hpos
    obtain ⟨v1, w1, hr, h2, h3, _, h5⟩ := run_append_own_at (P := P) W base t ty e i0 z sz bytes ht hi hz0 hz1 hz2 hz hsz v n xs HO ⟨b, o, none⟩ m c ys HR.len (fun j u hu => by rw [Addr.add_lit]; exact hcells j u hu) h1 hm hl hbase
    refine ⟨v1, w1, hr, h2, h3, ?_⟩
    rcases h5 with h5 | h5
    · exact .inl h5
    · exact .inr ⟨_, h5, Nat.le_refl _⟩
theorem app_rd {W : World} {base : Nat} (hgd : o.guard = none) (s x : Operand) (t e : TypeId) (z : Value) (sz bytes : Nat) (hsz : 0 < sz)
    (ho : o.op = .call { callee := .builtin .append, args := #[s, x], argTypes := #[t, t] })
    (ht : P.underlying t = some (.slice e)) (hinfo : (P.info? e).map (fun i => (i.zero, i.size, i.bytes)) = some (some z, sz, bytes)) (hz : z.cells.size = sz)
    (v : Value) (n : Nat) (xs ys : List Value) (A : Option Addr) (m c : Nat) (hs : a.eval s = v) (hx : a.eval x = .slice A m c) (h1 : ∀ u ∈ ys, u.oneCell' = true)
    (HO : W.ownsRow base e sz v n xs) (HR : Rd sz W A m c ys) (hbase : base ≤ W.heap.size) (hl : (n + m) * bytes ≤ 140737488355328) (hm : n + m ≤ maxLen)
    (h : ∀ v1 w1, w1.ownsRow base e sz v1 (n + m) (xs ++ ys) → W.grownBy w1 v.ownBlock → (v1.ownBlock = v.ownBlock ∨ ∃ k, v1.ownBlock = some k ∧ W.heap.size ≤ k) → wpList P ops Q rest (a.put o.dst v1) w1) :
    wpList P ops Q (o :: rest) a W := by
  obtain ⟨v1, w1, hr, h2, h3, h4⟩ := run_append_rd (P := P) t e o.type z sz bytes hsz ht hinfo hz v n xs ys A m c h1 HO HR hbase hl hm
  refine wpList_plain hgd fun K hK => ?_
  unfold Oper.wp execOp
  simp only [ho, resolve, invoke, builtin, Sem.run_bind, Sem.run_pure, Result.andThen_ok, List.map_toArray, List.map_cons, List.map_nil, hs, hx, hr]
  exact hK _ _ (h v1 w1 h2 h3 h4)

/-- append(v, s...): s a string. -/
theorem app_str {W : World} {base : Nat} (hgd : o.guard = none) (sl x : Operand) (t u : TypeId) (e : TypeId)
    (ho : o.op = .call { callee := .builtin .append, args := #[sl, x], argTypes := #[t, u] })
    (ht : P.underlying t = some (.slice e)) (hu : P.underlying u = some .string) (hinfo : (P.info? e).map (fun i => (i.zero, i.size, i.bytes)) = some (some (.int .u8 0), 1, 1))
    (v : Value) (l : List UInt8) (s : ByteArray) (hs : a.eval sl = v) (hx : a.eval x = .string s)
    (HO : W.ownsRow base e 1 v l.length (bvs l)) (hbase : base ≤ W.heap.size) (hl : l.length + s.size ≤ 140737488355328)
    (h : ∀ v1 w1, w1.ownsRow base e 1 v1 (l ++ s.data.toList).length (bvs (l ++ s.data.toList)) → W.grownBy w1 v.ownBlock → (v1.ownBlock = v.ownBlock ∨ ∃ k, v1.ownBlock = some k ∧ W.heap.size ≤ k) → wpList P ops Q rest (a.put o.dst v1) w1) :
    wpList P ops Q (o :: rest) a W := by
  obtain ⟨i0, hi, hzz⟩ := Option.map_eq_some_iff.1 hinfo
  simp only [Prod.mk.injEq] at hzz
  obtain ⟨hz0, hz1, hz2⟩ := hzz
  have hcs : Lib.strCells s = bvs s.data.toList := rfl
  have hlen : (l ++ s.data.toList).length = l.length + s.size := by rw [List.length_append]; rfl
  have hrun : ∃ v1 w1, (Builtin.append_ #[t, u] o.type #[v, .string s]).run P W = .ok v1 w1 ∧ w1.ownsRow base e 1 v1 (l ++ s.data.toList).length (bvs (l ++ s.data.toList)) ∧ W.grownBy w1 v.ownBlock ∧ (v1.ownBlock = v.ownBlock ∨ ∃ k, v1.ownBlock = some k ∧ W.heap.size ≤ k) := by
    obtain ⟨v1, w1, hr, h2, h3, h4⟩ := Lib.run_append_own_string (P := P) W base t u o.type e i0 ht hu hi hz0 hz1 hz2 v l.length (bvs l) HO s (by simp only [maxLen]; omega) (by omega) hbase
    refine ⟨v1, w1, hr, by rw [hlen, bvs_append]; exact h2, h3, ?_⟩
    by_cases hs0 : s.size = 0
    · left
      have hd : s.data.toList = [] := List.eq_nil_of_length_eq_zero hs0
      have hr2 : (Builtin.append_ #[t, u] o.type #[v, .string s]).run P W = .ok v W := by
        rcases HO.2 with ⟨rfl, hn⟩ | ⟨g, cap, cur, rfl, _, _, hnc, _⟩
        · simp [Builtin.append_, run_underlying ht, run_underlying hu, sizeOf, typeInfo, hi, hz1, Builtin.lenOf, Builtin.firstCells, hs0, hd]
        · simp [Builtin.append_, run_underlying ht, run_underlying hu, sizeOf, typeInfo, hi, hz1, Builtin.lenOf, Builtin.firstCells, hs0, hd, hnc, storeCells]
      rw [hr2] at hr
      injection hr with hv _
      rw [hv]
    · rcases HO.2 with ⟨rfl, hn⟩ | ⟨g, cap, cur, rfl, hbg, hg, hnc, hcm, hcs', htake⟩
      · right
        have hr2 := run_append_nil_string (P := P) W t u o.type e i0 (.int .u8 0) ht hu hi hz0 s (by omega) (by omega) (by rw [hz2]; omega)
        rw [hr2] at hr
        injection hr with hv _
        rw [← hv]
        exact ⟨W.heap.size, rfl, Nat.le_refl _⟩
      · by_cases hroom : l.length + s.size ≤ cap
        · left
          have hr2 := Lib.run_append_room_string (P := P) W t u o.type e i0 ht hu hi hz1 g l.length cap cur hg s hroom (by omega)
          rw [hr2] at hr
          injection hr with hv _
          rw [← hv]
          rfl
        · right
          have hr2 := Lib.run_append_grow_string (P := P) W t u o.type e i0 (.int .u8 0) ht hu hi hz0 ⟨g, 0, none⟩ l.length cap (bvs l) (by rw [bvs_length, hz1, Nat.mul_one]) (HO.cells (g := g) rfl) s (by omega) (by omega) (by rw [hz2]; exact growslice_fits (by omega) (by omega))
          rw [hr2] at hr
          injection hr with hv _
          rw [← hv]
          exact ⟨W.heap.size, rfl, Nat.le_refl _⟩
  obtain ⟨v1, w1, hr, h2, h3, h4⟩ := hrun
  refine wpList_plain hgd fun K hK => ?_
  unfold Oper.wp execOp
  simp only [ho, resolve, invoke, builtin, Sem.run_bind, Sem.run_pure, Result.andThen_ok, List.map_toArray, List.map_cons, List.map_nil, hs, hx, hr]
  exact hK _ _ (h v1 w1 h2 h3 h4)
end

end Go.Proofs.YtbkncfedahifkaaGreat

/-
  Package code, the writer: contracts of NewWriter and Num.
-/
namespace Go.Proofs.YtbkncfedahifkaaGreat
open Go.RowKit

/-- A writer at block b, its bytes in block o, if any. -/
def IsWr (w : World) (b : Nat) (o : Option Nat) (l : List UInt8) : Prop :=
  ∃ v, w.heap[b]? = some (.cells #[v] 161 (0, 0)) ∧ w.ownsRow 0 5 1 v l.length (bvs l) ∧ v.ownBlock = o

/-- The writer behind a call: its bytes lie where they lay, or in new memory. -/
def WSt (w0 : World) (b : Nat) (o : Option Nat) (l : List UInt8) (w : World) : Prop :=
  ∃ o', IsWr w b o' l ∧ (o' = o ∨ ∃ k, o' = some k ∧ w0.heap.size ≤ k) ∧ Ch (b :: o.toList) w0 w

theorem IsWr.lt {w : World} {b : Nat} {o : Option Nat} {l : List UInt8} (h : IsWr w b o l) : b < w.heap.size := by
  obtain ⟨v, hb, _, _⟩ := h
  exact lt_of_at hb
theorem IsWr.olt {w : World} {b : Nat} {o : Option Nat} {l : List UInt8} (h : IsWr w b o l) : ∀ k, o = some k → k < w.heap.size := by
  obtain ⟨v, hb, ho, rfl⟩ := h
  exact own_lt ho
theorem IsWr.keep {w w' : World} {b : Nat} {o : Option Nat} {l : List UInt8} {F : List Nat} (h : IsWr w b o l) (hc : Ch F w w') (hb : b ∉ F) (ho : ∀ k, o = some k → k ∉ F) : IsWr w' b o l := by
  obtain ⟨v, h1, h2, rfl⟩ := h
  exact ⟨v, hc.at_ h1 hb, own_keep h2 hc ho, rfl⟩
theorem IsWr.alloc {w : World} {b : Nat} {o : Option Nat} {l : List UInt8} (h : IsWr w b o l) (x : Obj) : IsWr (w.alloc x) b o l :=
  h.keep (F := []) ((Ch.refl _ _).alloc x) (by simp) (by simp)
theorem WSt.start {w : World} {b : Nat} {o : Option Nat} {l : List UInt8} (h : IsWr w b o l) : WSt w b o l w := ⟨o, h, .inl rfl, Ch.refl _ _⟩
theorem WSt.alloc {w0 w : World} {b : Nat} {o : Option Nat} {l : List UInt8} (h : WSt w0 b o l w) (x : Obj) : WSt w0 b o l (w.alloc x) := by
  obtain ⟨o', h1, h2, h3⟩ := h
  exact ⟨o', h1.alloc x, h2, h3.alloc x⟩

/-- What an append to the writer's bytes, and the store of what it gives, leave. -/
theorem WSt.put {w0 w w1 : World} {b : Nat} {o o' : Option Nat} {l l2 : List UInt8} {v v1 : Value} (hb : w.heap[b]? = some (.cells #[v] 161 (0, 0))) (hv : v.ownBlock = o') (ho : o' = o ∨ ∃ k, o' = some k ∧ w0.heap.size ≤ k) (hown : w.ownsRow 0 5 1 v l.length (bvs l)) (hc : Ch (b :: o.toList) w0 w)
    (h1 : w1.ownsRow 0 5 1 v1 l2.length (bvs l2)) (hg : w.grownBy w1 v.ownBlock) (hat : v1.ownBlock = v.ownBlock ∨ ∃ k, v1.ownBlock = some k ∧ w.heap.size ≤ k) (hs : w0.heap.size ≤ w.heap.size) :
    WSt w0 b o l2 (w1.setCell ⟨b, 0, none⟩ v1) := by
  subst hv
  have hne : some b ≠ v.ownBlock := by
    intro e
    rcases hown.2 with ⟨rfl, _⟩ | ⟨g, cap, cur, rfl, _, hh, _⟩
    · simp [Value.ownBlock] at e
    · simp only [Value.ownBlock, Option.some.injEq] at e
      subst e
      rw [hh] at hb
      simp at hb
  have hb1 : w1.heap[b]? = some (.cells #[v] 161 (0, 0)) := (hg.block b (lt_of_at hb) hne).trans hb
  have hne1 : some b ≠ v1.ownBlock := by
    intro e
    rcases h1.2 with ⟨rfl, _⟩ | ⟨g, cap, cur, rfl, _, hh, _⟩
    · simp [Value.ownBlock] at e
    · simp only [Value.ownBlock, Option.some.injEq] at e
      subst e
      rw [hh] at hb1
      simp at hb1
  have hc1 : Ch (b :: o.toList) w0 w1 := hc.grown hg (by
    intro k hk
    rcases ho with ho | ⟨k', ho, hk'⟩
    · left; rw [hk] at ho; simp [← ho]
    · right; rw [hk] at ho; injection ho with ho; omega)
  have hset : Ch [b] w1 (w1.setCell ⟨b, 0, none⟩ v1) := (Ch.refl _ _).setCell _ _ (by simp)
  refine ⟨v1.ownBlock, ⟨v1, ?_, own_keep h1 hset (by intro k hk; rw [hk] at hne1; simpa using fun e => hne1 (by rw [e])), rfl⟩, ?_, hc1.setCell _ _ (by simp)⟩
  · have := heap_setCell_same w1 b 0 #[v] 161 v1 hb1
    simpa using this
  · rcases hat with hat | ⟨k, hat, hk⟩
    · rw [hat]; exact ho
    · exact .inr ⟨k, hat, by omega⟩

/-- A call on a writer that a call has left. -/
theorem WSt.then {w0 w1 : World} {b : Nat} {o : Option Nat} {l : List UInt8} (h : WSt w0 b o l w1) :
    ∃ o', IsWr w1 b o' l ∧ (∀ k, o' = some k → o = some k ∨ w0.heap.size ≤ k) ∧ Ch (b :: o.toList) w0 w1 ∧ ∀ W, Ch [] w1 W → ∀ l2 w2, WSt W b o' l2 w2 → WSt w0 b o l2 w2 := by
  obtain ⟨o', h1, h2, h3⟩ := h
  refine ⟨o', h1, ?_, h3, ?_⟩
  · intro k hk
    rcases h2 with h2 | ⟨k', h2, hk'⟩
    · left; rw [← h2, hk]
    · right; rw [hk] at h2; injection h2 with h2; omega
  · intro W hW l2 w2 ⟨o2, q1, q2, q3⟩
    have hs := hW.size
    have hs3 := h3.size
    refine ⟨o2, q1, ?_, (h3.trans hW (by simp)).trans q3 ?_⟩
    · rcases q2 with rfl | ⟨k, q2, hk⟩
      · exact h2
      · exact .inr ⟨k, q2, by omega⟩
    · intro x hx
      simp only [List.mem_cons, Option.mem_toList] at hx ⊢
      rcases hx with rfl | hx
      · exact .inl (.inl rfl)
      · rcases h2 with rfl | ⟨k', h2, hk'⟩
        · exact .inl (.inr hx)
        · right; rw [h2] at hx; injection hx with hx; omega
theorem IsWr.b_ne {w : World} {b : Nat} {o : Option Nat} {l : List UInt8} (h : IsWr w b o l) : o ≠ some b := by
  obtain ⟨v, hb, hown, rfl⟩ := h
  intro e
  rcases hown.2 with ⟨rfl, _⟩ | ⟨g, cap, cur, rfl, _, hh, _⟩
  · simp [Value.ownBlock] at e
  · simp only [Value.ownBlock, Option.some.injEq] at e
    subst e
    rw [hh] at hb
    simp at hb

/-- A variadic's box of one. -/
theorem rd_one (W : World) (v : Value) (t : TypeId) : Rd 1 (W.alloc (.cells #[v] t)) (some ⟨W.heap.size, 0, none⟩) 1 1 [v] :=
  own_rd (World.ownsRow_lit (base := 0) W #[v] 1 (Nat.zero_le _) (by simp [maxLen]) rfl)
theorem IsWr.fresh {w : World} {b : Nat} {o : Option Nat} {l : List UInt8} (h : IsWr w b o l) : ∀ a : Addr, some (⟨w.heap.size, 0, none⟩ : Addr) = some a → a.block ≠ b ∧ o ≠ some a.block := by
  intro a ha
  injection ha with ha
  subst ha
  refine ⟨fun e => ?_, fun e => ?_⟩
  · have := h.lt
    simp only at e
    omega
  · have := h.olt _ e
    simp only at this
    omega

/-- The writer's own block behind an append to its bytes. -/
theorem wr_there {w w1 : World} {b n : Nat} {v : Value} {xs : List Value} (hb : w.heap[b]? = some (.cells #[v] 161 (0, 0))) (hown : w.ownsRow 0 5 1 v n xs) (hg : w.grownBy w1 v.ownBlock) : w1.heap[b]? = some (.cells #[v] 161 (0, 0)) := by
  have hne : some b ≠ v.ownBlock := by
    intro e
    rcases hown.2 with ⟨rfl, _⟩ | ⟨g, cap, cur, rfl, _, hh, _⟩
    · simp [Value.ownBlock] at e
    · simp only [Value.ownBlock, Option.some.injEq] at e
      subst e
      rw [hh] at hb
      simp at hb
  exact (hg.block b (lt_of_at hb) hne).trans hb

theorem Tryz.info5 : (Tryz.prog.info? 5).map (fun i => (i.zero, i.size, i.bytes)) = some (some (.int .u8 0), 1, 1) := by kernel_rfl

theorem new_writer (w : World) : Calls Tryz.prog 60 #[] w fun e w' => e = .returned (.pointer (some ⟨w.heap.size, 0, none⟩)) ∧ w' = w.alloc (.cells #[.slice none 0 0] 161) := by
  go_enter Tryz.func60, Tryz.ntmps60
  go_wp2
  go_ret
  exact ⟨rfl, rfl⟩

end Go.Proofs.YtbkncfedahifkaaGreat

/-
  Package code, the writer: the contract of Num.
-/
namespace Go.Proofs.YtbkncfedahifkaaGreat
open Go.RowKit

def u64s (ns : List Nat) : List Value := ns.map fun (x : Nat) => Value.int .u64 (x : Int)
theorem u64s_length (ns : List Nat) : (u64s ns).length = ns.length := by simp [u64s]

theorem or_more (y : Nat) : bits BinOp.or IntKind.u8 ((y : Int) % 256) 128 = ((UInt8.ofNat (y % 128 + 128)).toNat : Int) := by
  have key : ∀ z : Fin 256, bits BinOp.or IntKind.u8 ((z.val : Int)) 128 = ((UInt8.ofNat (z.val % 128 + 128)).toNat : Int) := by decide +kernel
  have := key ⟨y % 256, Nat.mod_lt _ (by omega)⟩
  have e : ((y % 256 : Nat) : Int) = (y : Int) % 256 := by omega
  have e2 : y % 256 % 128 = y % 128 := by omega
  simp only [e, e2] at this
  exact this
theorem low_byte (y : Nat) (h : y < 128) : (y : Int) = ((UInt8.ofNat y).toNat : Int) := by
  rw [UInt8.toNat_ofNat']
  have : y % 2 ^ 8 = y := Nat.mod_eq_of_lt (by omega)
  rw [this]

/-- In the midst of one number: d is laid, y is left. -/
def NumIn (w0 : World) (b : Nat) (o : Option Nat) (l : List UInt8) (x : Nat) (y : Nat) (w : World) : Prop :=
  ∃ d, encN x = d ++ encN y ∧ y ≤ x ∧ WSt w0 b o (l ++ d) w

theorem len_room {l : List UInt8} {n k x y : Nat} {ns : List Nat} {d : List UInt8} (hl : l.length + 10 * n ≤ 140737488355328) (hn : ns.length = n) (hk : k < ns.length) (hns : ∀ x ∈ ns, x < 18446744073709551616)
    (hx : ns[k] = x) (hd : encN x = d ++ encN y) (hy : 0 < (encN y).length) : (l ++ encs (ns.take k) ++ d).length + 1 ≤ 140737488355328 := by
  have h1 := encs_len (ns.take k) (fun z hz => hns z (List.mem_of_mem_take hz))
  have h2 := encN_len10 (hns ns[k] (List.getElem_mem hk))
  rw [hx, hd, List.length_append] at h2
  rw [List.length_take] at h1
  simp only [List.length_append]
  omega

set_option maxRecDepth 100000 in
set_option maxHeartbeats 800000 in
theorem wnum0 (b : Nat) (o : Option Nat) (l : List UInt8) (A : Option Addr) (n c : Nat) (ns : List Nat) (w : World) (hw : IsWr w b o l) (hr : Rd 1 w A n c (u64s ns))
    (hns : ∀ x ∈ ns, x < 18446744073709551616) (hlen : l.length + 10 * n ≤ 140737488355328) (hA : 0 < n → ∀ a, A = some a → a.block ≠ b ∧ o ≠ some a.block) :
    Calls Tryz.prog 61 #[.pointer (some ⟨b, 0, none⟩), .slice A n c] w fun e w' => e = .returned (.tuple #[]) ∧ WSt w b o (l ++ encs ns) w' := by
  have hn : ns.length = n := by have := hr.len; simpa [u64s] using this
  have hnb : n ≤ 100000000000000 := by omega
  go_enter Tryz.func61, Tryz.ntmps61
  go_wp2
  go_loopw [8] (fun i wr => ∃ k : Nat, k ≤ n ∧ i = .int .i64 k ∧ WSt w b o (l ++ encs (ns.take k)) wr) (fun i _ => n - (intOf i).toNat)
  case atStart => exact ⟨0, Nat.zero_le _, rfl, by simpa [encs] using WSt.start hw⟩
  case round =>
    obtain ⟨k, hk, rfl, hst⟩ := hrel
    by_cases hlt : k < n
    · have hk' : k < ns.length := by omega
      obtain ⟨ab, ao, rfl, hcell⟩ := hr.cells (by omega)
      have hxc : wr.cell? ⟨ab, ao + k, none⟩ = some (.int .u64 (ns[k] : Int)) := by
        obtain ⟨o', h1, h2, h3⟩ := hst
        refine h3.cell (hcell k _ (by simp [u64s, hk'])) ?_
        have := hA (by omega) _ rfl
        simp only [List.mem_cons, Option.mem_toList, not_or]
        exact ⟨this.1, fun h => this.2 (by simpa using h)⟩
      clear hcell
      have hx64 := hns ns[k] (List.getElem_mem hk')
      generalize hx : ns[k] = x at *
      have Hx := Lib.hid hx; clear hx
      have Hx64 := Lib.hid hx64; clear hx64
      have Hns := Lib.hid hns; clear hns
      have Hlen := Lib.hid hlen; clear hlen
      go_wp2
      go_loopw [5] (fun u wr => ∃ y : Nat, u = .int .u64 y ∧ NumIn w b o (l ++ encs (ns.take k)) x y wr) (fun u _ => (intOf u).toNat)
      case atStart => exact ⟨x, rfl, [], by simp, Nat.le_refl _, by simpa using hst⟩
      case round =>
        clear hst hxc
        obtain ⟨y, rfl, d, hd, hyx, hst⟩ := hrel
        obtain ⟨o', ⟨v, hb, hown, hv⟩, ho', hch⟩ := hst
        have hbc := cell_at hb 0 rfl
        have hbf := free_at hb 0
        by_cases hy : 128 ≤ y
        · have hl8 : (l ++ encs (ns.take k) ++ d).length + 1 ≤ 140737488355328 := len_room Hlen.out hn hk' Hns.out Hx.out hd (encN_pos y)
          generalize hcur : l ++ encs (ns.take k) ++ d = cur at *
          have Hcur := Lib.hid hcur; clear hcur
          go_wp2_with (at_builtin; refine app_one rfl (.tmp 20) (.tmp 24) 45 5 (.int .u8 0) 1 rfl Tryz.underlying45 Tryz.info5 rfl v _ _ _ rfl rfl rfl hown (Nat.zero_le _) (by omega) (by unfold maxLen; omega) ?_; intro v1 w1 h1 hg hat; obtain ⟨A1, c1, rfl⟩ := own_slice h1; have hb1 := wr_there hb hown hg; have hbc1 := cell_at hb1 0 rfl; have hbf1 := free_at hb1 0)
          go_roundw
          case rel =>
            refine ⟨y / 128, by go_num, d ++ [UInt8.ofNat (y % 128 + 128)], by rw [hd, encN_big hy]; simp, by omega, ?_⟩
            rw [show l ++ encs (ns.take k) ++ (d ++ [UInt8.ofNat (y % 128 + 128)]) = cur ++ [UInt8.ofNat (y % 128 + 128)] from by rw [← Hcur.out]; simp only [List.append_assoc]]
            exact WSt.put hb hv ho' hown hch (own_snoc h1 (or_more y)) hg hat hch.size
          case measure => simp [intOf]; omega
        · have hl8 : (l ++ encs (ns.take k) ++ d).length + 1 ≤ 140737488355328 := len_room Hlen.out hn hk' Hns.out Hx.out hd (encN_pos y)
          generalize hcur : l ++ encs (ns.take k) ++ d = cur at *
          have Hcur := Lib.hid hcur; clear hcur
          go_wp2_with (at_builtin; refine app_one rfl (.tmp 32) (.tmp 35) 45 5 (.int .u8 0) 1 rfl Tryz.underlying45 Tryz.info5 rfl v _ _ _ rfl rfl rfl hown (Nat.zero_le _) (by omega) (by unfold maxLen; omega) ?_; intro v1 w1 h1 hg hat; obtain ⟨A1, c1, rfl⟩ := own_slice h1; have hb1 := wr_there hb hown hg; have hbc1 := cell_at hb1 0 rfl; have hbf1 := free_at hb1 0)
          go_roundw
          case rel =>
            refine ⟨k + 1, by omega, by go_num, ?_⟩
            rw [show l ++ encs (ns.take (k + 1)) = cur ++ [UInt8.ofNat y] from by rw [← Hcur.out, encs_take_succ ns k hk', Hx.out, hd, encN_small (show y < 128 by omega)]; simp only [List.append_assoc]]
            exact WSt.put hb hv ho' hown hch (own_snoc h1 (low_byte y (by omega))) hg hat hch.size
          case measure => simp [intOf]; omega
    · go_wp2
      go_end0
      have e : k = n := by omega
      subst e
      rw [List.take_of_length_le (by omega)] at hst
      exact ⟨rfl, hst⟩
theorem wnum (b : Nat) (o : Option Nat) (l : List UInt8) (A : Option Addr) (n c : Nat) (ns : List Nat) (w : World) (hw : IsWr w b o l) (hr : Rd 1 w A n c (u64s ns))
    (hns : ∀ x ∈ ns, x < 18446744073709551616) (hlen : l.length + 10 * n ≤ 140737488355328) (hA : ∀ a, A = some a → a.block ≠ b ∧ o ≠ some a.block) :
    Calls Tryz.prog 61 #[.pointer (some ⟨b, 0, none⟩), .slice A n c] w fun e w' => e = .returned (.tuple #[]) ∧ WSt w b o (l ++ encs ns) w' := wnum0 b o l A n c ns w hw hr hns hlen (fun _ => hA)

end Go.Proofs.YtbkncfedahifkaaGreat

/-
  Package code, the writer: the contract of Int.
-/
set_option linter.unusedVariables false
namespace Go.Proofs.YtbkncfedahifkaaGreat
open Go.RowKit

def i64s (ns : List Int) : List Value := ns.map fun (x : Int) => Value.int .i64 x

theorem bits_xor_comm (k : IntKind) (a b : Int) : bits BinOp.xor k a b = bits BinOp.xor k b a := by
  show k.wrap ((BitVec.ofInt k.bits a ^^^ BitVec.ofInt k.bits b).toNat : Int) = k.wrap ((BitVec.ofInt k.bits b ^^^ BitVec.ofInt k.bits a).toNat : Int)
  rw [BitVec.xor_comm]

theorem zig_bits (x : Int) (h0 : -9223372036854775808 ≤ x) (h1 : x ≤ 9223372036854775807) :
    bits BinOp.xor IntKind.u64 (IntKind.u64.wrap (IntKind.u64.wrap x * 2)) (IntKind.u64.wrap (x / 9223372036854775808)) = (zz x : Int) := by
  by_cases hx : x < 0
  · have e : IntKind.u64.wrap (x / 9223372036854775808) = IntKind.u64.max := by
      have : x / 9223372036854775808 = -1 := by omega
      rw [this]
      rfl
    rw [e, bits_xor_comm, Lib.zigzag_neg h0 hx]
    simp only [zz, Lib.zigzag, if_pos hx, if_neg (show ¬ 0 ≤ x by omega)]
    omega
  · have e : IntKind.u64.wrap (x / 9223372036854775808) = 0 := by
      have : x / 9223372036854775808 = 0 := by omega
      rw [this]
      rfl
    have e2 : IntKind.u64.wrap (IntKind.u64.wrap x * 2) = (((x * 2).toNat : Nat) : Int) := by
      rw [IntKind.wrap_u64, IntKind.wrap_u64]
      omega
    rw [e, e2]
    simp only [zz, if_neg hx]
    have := bits_xor_u64_nat (x * 2).toNat 0 (by omega) (by omega)
    simpa using this

set_option maxRecDepth 100000 in
set_option maxHeartbeats 800000 in
theorem wint0 (b : Nat) (o : Option Nat) (l : List UInt8) (A : Option Addr) (n c : Nat) (ns : List Int) (w : World) (hw : IsWr w b o l) (hr : Rd 1 w A n c (i64s ns))
    (hns : ∀ x ∈ ns, -9223372036854775808 ≤ x ∧ x ≤ 9223372036854775807) (hlen : l.length + 10 * n ≤ 140737488355328) (hA : 0 < n → ∀ a, A = some a → a.block ≠ b ∧ o ≠ some a.block) :
    Calls Tryz.prog 94 #[.pointer (some ⟨b, 0, none⟩), .slice A n c] w fun e w' => e = .returned (.tuple #[]) ∧ WSt w b o (l ++ encs (ns.map zz)) w' := by
  have hn : ns.length = n := by have := hr.len; simpa [i64s] using this
  have hnb : n ≤ 100000000000000 := by omega
  go_enter Tryz.func94, Tryz.ntmps94
  go_wp2
  go_loopw [8] (fun i wr => ∃ k : Nat, k ≤ n ∧ i = .int .i64 k ∧ WSt w b o (l ++ encs ((ns.map zz).take k)) wr) (fun i _ => n - (intOf i).toNat)
  case atStart => exact ⟨0, Nat.zero_le _, rfl, by simpa [encs] using WSt.start hw⟩
  case round =>
    obtain ⟨k, hk, rfl, hst⟩ := hrel
    by_cases hlt : k < n
    · have hk' : k < ns.length := by omega
      obtain ⟨o', hw', ho', hch, hthen⟩ := hst.then
      obtain ⟨ab, ao, rfl, hcell⟩ := hr.cells (by omega)
      have hxc : wr.cell? ⟨ab, ao + k, none⟩ = some (.int .i64 ns[k]) := by
        refine hch.cell (hcell k _ (by simp [i64s, hk'])) ?_
        have := hA (by omega) _ rfl
        simp only [List.mem_cons, Option.mem_toList, not_or]
        exact ⟨this.1, fun h => this.2 (by simpa using h)⟩
      clear hcell
      have hx64 := hns ns[k] (List.getElem_mem hk')
      generalize hx : ns[k] = x at *
      have Hx := Lib.hid hx; clear hx
      have Hx64 := Lib.hid hx64; clear hx64
      have Hns := Lib.hid hns; clear hns
      have hzl := zz_lt Hx64.out.1 Hx64.out.2
      have hzb := zig_bits x Hx64.out.1 Hx64.out.2
      have hwa : IsWr (wr.alloc (.cells #[.int .u64 (zz x : Int)] 127)) b o' (l ++ encs ((ns.map zz).take k)) := hw'.alloc _
      have hra : Rd 1 (wr.alloc (.cells #[.int .u64 (zz x : Int)] 127)) (some ⟨wr.heap.size, 0, none⟩) 1 1 (u64s [zz x]) :=
        rd_one _ _ _
      have hlb : (l ++ encs ((ns.map zz).take k)).length + 10 * 1 ≤ 140737488355328 := by
        have h1 := encs_len ((ns.map zz).take k) (fun z hz => by
          obtain ⟨q, hq, rfl⟩ := List.mem_map.1 (List.mem_of_mem_take hz)
          exact zz_lt (Hns.out q hq).1 (Hns.out q hq).2)
        simp only [List.length_take, List.length_map] at h1
        simp only [List.length_append]
        omega
      have Hzb := Lib.hid hzb; have Hzl := Lib.hid hzl; clear hzb hzl
      go_wp2_with fail
      rw [Hzb.out]
      refine (wnum b o' _ _ 1 1 [zz x] _ hwa hra (by simpa using Hzl.out) hlb hw'.fresh).mono ?_
      rintro e w' ⟨rfl, hst'⟩
      go_wp2
      go_roundw
      case rel => 
        refine ⟨k + 1, by omega, by go_num, ?_⟩
        have h2 := hthen _ ((Ch.refl _ _).alloc _) _ _ hst'
        rw [encs_take_succ (ns.map zz) k (by simpa using hk'), ← List.append_assoc, List.getElem_map, Hx.out, ← encs_one]
        exact h2
      case measure => simp [intOf]; omega
    · go_wp2
      go_end0
      have e : k = n := by omega
      subst e
      rw [List.take_of_length_le (by simp; omega)] at hst
      exact ⟨rfl, hst⟩
theorem wint (b : Nat) (o : Option Nat) (l : List UInt8) (A : Option Addr) (n c : Nat) (ns : List Int) (w : World) (hw : IsWr w b o l) (hr : Rd 1 w A n c (i64s ns))
    (hns : ∀ x ∈ ns, -9223372036854775808 ≤ x ∧ x ≤ 9223372036854775807) (hlen : l.length + 10 * n ≤ 140737488355328) (hA : ∀ a, A = some a → a.block ≠ b ∧ o ≠ some a.block) :
    Calls Tryz.prog 94 #[.pointer (some ⟨b, 0, none⟩), .slice A n c] w fun e w' => e = .returned (.tuple #[]) ∧ WSt w b o (l ++ encs (ns.map zz)) w' := wint0 b o l A n c ns w hw hr hns hlen (fun _ => hA)

end Go.Proofs.YtbkncfedahifkaaGreat

/-
  Package code, the writer: the contracts of Text and Bool.
-/
set_option linter.unusedVariables false
namespace Go.Proofs.YtbkncfedahifkaaGreat
open Go.RowKit

def strs (ss : List ByteArray) : List Value := ss.map fun s => Value.string s
def byt (ss : List ByteArray) : List (List UInt8) := ss.map fun s => s.data.toList

theorem text_room {l : List UInt8} {q : List (List UInt8)} {n k s : Nat} (h : l.length + 10 * n + bulk q ≤ 140737488355328) (hq : q.length = n) (hk : k < n) (hb : bulk (q.take k) + s ≤ bulk q) :
    (l ++ encTs (q.take k)).length + 10 * 1 + s ≤ 140737488355328 := by
  have h1 := encTs_len (q.take k) (fun z hz => by
    obtain ⟨j, hj, rfl⟩ := List.getElem_of_mem hz
    have hj' : j < q.length := by rw [List.length_take] at hj; omega
    have := bulk_take q j hj'
    rw [List.getElem_take]
    omega)
  rw [List.length_take] at h1
  rw [List.length_append]
  omega

set_option maxRecDepth 100000 in
set_option maxHeartbeats 800000 in
theorem wtext0 (b : Nat) (o : Option Nat) (l : List UInt8) (A : Option Addr) (n c : Nat) (ss : List ByteArray) (w : World) (hw : IsWr w b o l) (hr : Rd 1 w A n c (strs ss))
    (hlen : l.length + 10 * n + bulk (byt ss) ≤ 140737488355328) (hA : 0 < n → ∀ a, A = some a → a.block ≠ b ∧ o ≠ some a.block) :
    Calls Tryz.prog 84 #[.pointer (some ⟨b, 0, none⟩), .slice A n c] w fun e w' => e = .returned (.tuple #[]) ∧ WSt w b o (l ++ encTs (byt ss)) w' := by
  have hn : ss.length = n := by have := hr.len; simpa [strs] using this
  have hnb : n ≤ 100000000000000 := by omega
  go_enter Tryz.func84, Tryz.ntmps84
  go_wp2
  go_loopw [8] (fun i wr => ∃ k : Nat, k ≤ n ∧ i = .int .i64 k ∧ WSt w b o (l ++ encTs ((byt ss).take k)) wr) (fun i _ => n - (intOf i).toNat)
  case atStart => exact ⟨0, Nat.zero_le _, rfl, by simpa [encTs] using WSt.start hw⟩
  case round =>
    have Hlen := Lib.hid hlen
    obtain ⟨k, hk, rfl, hst⟩ := hrel
    by_cases hlt : k < n
    · have hk' : k < ss.length := by omega
      obtain ⟨o1, hw', ho', hch, hthen⟩ := hst.then
      obtain ⟨ab, ao, rfl, hcell⟩ := hr.cells (by omega)
      have hxc : wr.cell? ⟨ab, ao + k, none⟩ = some (.string ss[k]) := by
        refine hch.cell (hcell k _ (by simp [strs, hk'])) ?_
        have := hA (by omega) _ rfl
        simp only [List.mem_cons, Option.mem_toList, not_or]
        exact ⟨this.1, fun h => this.2 (by simpa using h)⟩
      clear hcell
      have hbk := bulk_take (byt ss) k (by simpa [byt] using hk')
      generalize hx : ss[k] = x at *
      have hsz : (byt ss)[k]'(by simpa [byt] using hk') = x.data.toList := by simp [byt, hx]
      have hxs : x.data.toList.length = x.size := rfl
      rw [hsz, hxs] at hbk
      have Hx := Lib.hid hx; clear hx
      have Hsz := Lib.hid hsz; clear hsz
      have Hxs := Lib.hid hxs; clear hxs
      have Hbk := Lib.hid hbk; clear hbk
      have hxb : x.size ≤ 140737488355328 := by have := Hbk.out; omega
      have hwa : IsWr (wr.alloc (.cells #[.int .u64 (x.size : Int)] 127)) b o1 (l ++ encTs ((byt ss).take k)) := hw'.alloc _
      have hra : Rd 1 (wr.alloc (.cells #[.int .u64 (x.size : Int)] 127)) (some ⟨wr.heap.size, 0, none⟩) 1 1 (u64s [x.size]) := rd_one _ _ _
      have hlb : (l ++ encTs ((byt ss).take k)).length + 10 * 1 + x.size ≤ 140737488355328 := text_room Hlen.out (by simpa [byt] using hn) (by omega) Hbk.out
      go_wp2_with fail
      refine (wnum b o1 _ _ 1 1 [x.size] _ hwa hra (by simp; omega) (by omega) hw'.fresh).mono ?_
      rintro e w1 ⟨rfl, hst1⟩
      obtain ⟨o2, hw2, ho2, hch2, hthen2⟩ := hst1.then
      obtain ⟨v, hb2, hown2, hv2⟩ := hw2
      have hb2c := cell_at hb2 0 rfl
      have hb2f := free_at hb2 0
      have hen : (encs [x.size]).length ≤ 10 := by have := encs_len [x.size] (by simp; omega); simpa using this
      rw [encs_one] at hen
      have hcl : (l ++ encTs ((byt ss).take k) ++ encs [x.size]).length + x.size ≤ 140737488355328 := by rw [List.length_append, encs_one]; omega
      generalize hcur : l ++ encTs ((byt ss).take k) ++ encs [x.size] = cur at *
      have Hcur := Lib.hid hcur; clear hcur
      go_wp2_with (at_builtin; refine app_str rfl (.tmp 22) (.tmp 23) 45 9 5 rfl Tryz.underlying45 Tryz.underlying9 Tryz.info5 v cur x rfl rfl hown2 (Nat.zero_le _) hcl ?_; intro v1 w2 h1 hg hat; obtain ⟨A1, c1, rfl⟩ := own_slice h1; have hb3 := wr_there hb2 hown2 hg; have hb3c := cell_at hb3 0 rfl; have hb3f := free_at hb3 0)
      go_roundw
      case rel =>
        refine ⟨k + 1, by omega, by go_num, ?_⟩
        have h3 := WSt.put hb2 hv2 (.inl rfl) hown2 (Ch.refl _ _) h1 hg hat (Nat.le_refl _)
        have h4 := hthen _ ((Ch.refl _ _).alloc _) _ _ (hthen2 _ (Ch.refl _ _) _ _ h3)
        have e1 : l ++ encTs ((byt ss).take (k + 1)) = cur ++ x.data.toList := by
          rw [← Hcur.out, encTs_take_succ (byt ss) k (by simpa [byt] using hk'), Hsz.out, encs_one]
          simp only [encT, List.append_assoc]
          rfl
        have e2 : (cur ++ x.data.toList).length = cur.length + x.size := by rw [List.length_append]; rfl
        rw [e2] at h4
        rw [e1]
        exact h4
      case measure => simp [intOf]; omega
    · go_wp2
      go_end0
      have e : k = n := by omega
      subst e
      rw [List.take_of_length_le (by simp [byt]; omega)] at hst
      exact ⟨rfl, hst⟩
theorem wtext (b : Nat) (o : Option Nat) (l : List UInt8) (A : Option Addr) (n c : Nat) (ss : List ByteArray) (w : World) (hw : IsWr w b o l) (hr : Rd 1 w A n c (strs ss))
    (hlen : l.length + 10 * n + bulk (byt ss) ≤ 140737488355328) (hA : ∀ a, A = some a → a.block ≠ b ∧ o ≠ some a.block) :
    Calls Tryz.prog 84 #[.pointer (some ⟨b, 0, none⟩), .slice A n c] w fun e w' => e = .returned (.tuple #[]) ∧ WSt w b o (l ++ encTs (byt ss)) w' := wtext0 b o l A n c ss w hw hr hlen (fun _ => hA)


def bls (l : List Bool) : List Value := l.map fun b => Value.bool b
def bnum (b : Bool) : Nat := if b then 1 else 0

set_option maxRecDepth 100000 in
set_option maxHeartbeats 800000 in
theorem wbool0 (b : Nat) (o : Option Nat) (l : List UInt8) (A : Option Addr) (n c : Nat) (bs : List Bool) (w : World) (hw : IsWr w b o l) (hr : Rd 1 w A n c (bls bs))
    (hlen : l.length + 10 * n ≤ 140737488355328) (hA : 0 < n → ∀ a, A = some a → a.block ≠ b ∧ o ≠ some a.block) :
    Calls Tryz.prog 83 #[.pointer (some ⟨b, 0, none⟩), .slice A n c] w fun e w' => e = .returned (.tuple #[]) ∧ WSt w b o (l ++ encs (bs.map bnum)) w' := by
  have hn : bs.length = n := by have := hr.len; simpa [bls] using this
  have hnb : n ≤ 100000000000000 := by omega
  go_enter Tryz.func83, Tryz.ntmps83
  go_wp2
  go_loopw [9] (fun i wr => ∃ k : Nat, k ≤ n ∧ i = .int .i64 k ∧ WSt w b o (l ++ encs ((bs.map bnum).take k)) wr) (fun i _ => n - (intOf i).toNat)
  case atStart => exact ⟨0, Nat.zero_le _, rfl, by simpa [encs] using WSt.start hw⟩
  case round =>
    obtain ⟨k, hk, rfl, hst⟩ := hrel
    by_cases hlt : k < n
    · have hk' : k < bs.length := by omega
      obtain ⟨o', hw', ho', hch, hthen⟩ := hst.then
      obtain ⟨ab, ao, rfl, hcell⟩ := hr.cells (by omega)
      have hxc : wr.cell? ⟨ab, ao + k, none⟩ = some (.bool bs[k]) := by
        refine hch.cell (hcell k _ (by simp [bls, hk'])) ?_
        have := hA (by omega) _ rfl
        simp only [List.mem_cons, Option.mem_toList, not_or]
        exact ⟨this.1, fun h => this.2 (by simpa using h)⟩
      clear hcell
      have hlb : (l ++ encs ((bs.map bnum).take k)).length + 10 * 1 ≤ 140737488355328 := by
        have h1 := encs_len ((bs.map bnum).take k) (fun z hz => by
          obtain ⟨q, hq, rfl⟩ := List.mem_map.1 (List.mem_of_mem_take hz)
          unfold bnum
          split <;> omega)
        simp only [List.length_take, List.length_map] at h1
        simp only [List.length_append]
        omega
      generalize hx : bs[k] = x at *
      have Hx := Lib.hid hx; clear hx
      have hwa : IsWr (wr.alloc (.cells #[.int .u64 (bnum x : Int)] 127)) b o' (l ++ encs ((bs.map bnum).take k)) := hw'.alloc _
      have hra : Rd 1 (wr.alloc (.cells #[.int .u64 (bnum x : Int)] 127)) (some ⟨wr.heap.size, 0, none⟩) 1 1 (u64s [bnum x]) := rd_one _ _ _
      cases x <;>
      · go_wp2_with fail
        refine (wnum b o' _ _ 1 1 [bnum _] _ hwa hra (by simp [bnum]) hlb hw'.fresh).mono ?_
        rintro e w' ⟨rfl, hst'⟩
        go_wp2
        go_roundw
        case rel =>
          refine ⟨k + 1, by omega, by go_num, ?_⟩
          have h2 := hthen _ ((Ch.refl _ _).alloc _) _ _ hst'
          rw [encs_take_succ (bs.map bnum) k (by simpa using hk'), ← List.append_assoc, List.getElem_map, Hx.out, ← encs_one]
          exact h2
        case measure => simp [intOf]; omega
    · go_wp2
      go_end0
      have e : k = n := by omega
      subst e
      rw [List.take_of_length_le (by simp; omega)] at hst
      exact ⟨rfl, hst⟩
theorem wbool (b : Nat) (o : Option Nat) (l : List UInt8) (A : Option Addr) (n c : Nat) (bs : List Bool) (w : World) (hw : IsWr w b o l) (hr : Rd 1 w A n c (bls bs))
    (hlen : l.length + 10 * n ≤ 140737488355328) (hA : ∀ a, A = some a → a.block ≠ b ∧ o ≠ some a.block) :
    Calls Tryz.prog 83 #[.pointer (some ⟨b, 0, none⟩), .slice A n c] w fun e w' => e = .returned (.tuple #[]) ∧ WSt w b o (l ++ encs (bs.map bnum)) w' := wbool0 b o l A n c bs w hw hr hlen (fun _ => hA)

/-! ### a copy of a slice of bytes -/
/-- Some slice of bytes of one's own, not before block B. -/
def OwnB (B : Nat) (l : List UInt8) (w : World) (v : Value) : Prop := ∃ A c, v = .slice A l.length c ∧ w.ownsRow B 5 1 v l.length (bvs l)

set_option maxRecDepth 100000 in
theorem clone_bytes (A : Option Addr) (n c : Nat) (l : List UInt8) (w : World) (hr : RdB w A n c l) (hn : n ≤ 140737488355328) :
    Calls Tryz.prog 93 #[.slice A n c] w fun e w' => ∃ v, e = .returned v ∧ OwnB w.heap.size l w' v ∧ Ch [] w w' := by
  have hl : l.length = n := hr.length
  have hq := fun W => Lib.run_eql_slice_nil (P := Tryz.prog) W 45 5 A n c 0 0 Tryz.underlying45
  rcases A with _ | ad
  · have h0 : n = 0 := by
      rcases Nat.eq_zero_or_pos n with h | h
      · exact h
      · obtain ⟨_, _, e, _⟩ := hr.cells h
        cases e
    subst h0
    go_enter Tryz.func93, Tryz.ntmps93
    go_wp2
    go_ret
    obtain rfl : l = [] := List.eq_nil_of_length_eq_zero hl
    exact ⟨_, rfl, ⟨none, 0, rfl, World.ownsRow_nil _ _ _ _⟩, Ch.refl _ _⟩
  · have hown : (w.alloc (.cells #[] 5)).ownsRow w.heap.size 5 1 (.slice (some ⟨w.heap.size, 0, none⟩) 0 0) 0 [] := by
      simpa using World.ownsRow_lit (base := w.heap.size) (e := 5) (size := 1) w #[] 0 (Nat.le_refl _) (by simp [maxLen]) rfl
    have hr2 : Rd 1 (w.alloc (.cells #[] 5)) (some ad) n c (bvs l) := hr.keep (F := []) ((Ch.refl _ _).alloc _) (by simp)
    go_enter Tryz.func93, Tryz.ntmps93
    go_wp2_with (at_builtin; refine app_rd rfl (.tmp 5) (.tmp 6) 45 5 (.int .u8 0) 1 1 (by decide) rfl Tryz.underlying45 Tryz.info5 rfl (.slice (some ⟨w.heap.size, 0, none⟩) 0 0) 0 [] (bvs l) (some ad) n c rfl rfl (bvs_one l) hown hr2 (by simp) (by omega) (by unfold maxLen; omega) ?_; intro v1 w1 h1 hg hat)
    go_ret
    have hb : w.heap.size ≤ (w.alloc (.cells #[] 5)).heap.size := by simp
    obtain ⟨A1, c1, hv⟩ := own_slice h1
    refine ⟨v1, rfl, ⟨A1, c1, by rw [hl, hv, Nat.zero_add], by simpa [hl] using h1⟩, ?_⟩
    exact ((Ch.refl [] w).alloc _).grown hg (by intro k hk; simp only [Value.ownBlock, Option.some.injEq] at hk; right; omega)

end Go.Proofs.YtbkncfedahifkaaGreat

/-
  Package code: Bytes; the reader: what it is; NewReader; must; num.
-/
set_option linter.unusedVariables false
namespace Go.Proofs.YtbkncfedahifkaaGreat
open Go.RowKit

set_option maxRecDepth 100000 in
theorem wbytes (b : Nat) (o : Option Nat) (l : List UInt8) (w : World) (hw : IsWr w b o l) (hn : l.length ≤ 140737488355328) :
    Calls Tryz.prog 62 #[.pointer (some ⟨b, 0, none⟩)] w fun e w' => ∃ v, e = .returned v ∧ OwnB w.heap.size l w' v ∧ Ch [] w w' := by
  obtain ⟨v, hb, hown, hv⟩ := hw
  obtain ⟨A, c, rfl⟩ := own_slice hown
  have hc := cell_at hb 0 rfl
  go_enter Tryz.func62, Tryz.ntmps62
  go_wp2_with fail
  refine (clone_bytes A _ c l _ (own_rd hown) hn).mono ?_
  rintro e w' ⟨v, rfl, h1, h2⟩
  go_wp2
  go_ret
  exact ⟨v, rfl, h1, h2⟩

/-- A reader at block b; the bytes that are left (none: it failed); they lie in block g. -/
def IsRd (w : World) (b g : Nat) (st : Option (List UInt8)) : Prop :=
  g < w.heap.size ∧ ∃ A n c f, w.heap[b]? = some (.cells #[.slice A n c, .bool f] 168 (0, 0)) ∧ (∀ a, A = some a → a.block = g ∧ g ≠ b) ∧
    (match st with
      | none => f = true
      | some l => f = false ∧ RdB w A n c l ∧ n ≤ 140737488355328)

theorem IsRd.lt {w : World} {b g : Nat} {st : Option (List UInt8)} (h : IsRd w b g st) : b < w.heap.size := by
  obtain ⟨_, A, n, c, f, hb, _⟩ := h
  exact lt_of_at hb
theorem IsRd.keep {w w' : World} {b g : Nat} {st : Option (List UInt8)} {F : List Nat} (h : IsRd w b g st) (hc : Ch F w w') (hb : b ∉ F) (hg : g ∉ F) : IsRd w' b g st := by
  obtain ⟨h0, A, n, c, f, h1, h2, h3⟩ := h
  refine ⟨Nat.lt_of_lt_of_le h0 hc.size, A, n, c, f, hc.at_ h1 hb, h2, ?_⟩
  cases st with
  | none => exact h3
  | some l => exact ⟨h3.1, h3.2.1.keep hc (fun a ha => by rw [(h2 a ha).1]; exact hg), h3.2.2⟩
theorem IsRd.nil {w w' : World} {b g : Nat} {st : Option (List UInt8)} (h : IsRd w b g st) (hc : Ch [] w w') : IsRd w' b g st := h.keep hc (by simp) (by simp)

set_option maxRecDepth 100000 in
theorem new_reader (A : Option Addr) (n c : Nat) (l : List UInt8) (w : World) (hr : RdB w A n c l) (hn : n ≤ 140737488355328) :
    Calls Tryz.prog 64 #[.slice A n c] w fun e w' => ∃ b g, e = .returned (.pointer (some ⟨b, 0, none⟩)) ∧ IsRd w' b g (some l) ∧ w.heap.size ≤ b ∧ w.heap.size ≤ g ∧ Ch [] w w' := by
  go_enter Tryz.func64, Tryz.ntmps64
  go_wp2_with fail
  refine (clone_bytes A n c l _ hr hn).mono ?_
  rintro e w' ⟨v, rfl, ⟨A1, c1, rfl, hown⟩, h2⟩
  go_wp2
  go_ret
  have hl : l.length = n := hr.length
  have hs := h2.size
  have hb := heap_alloc_new w' (.cells #[.slice A1 l.length c1, .bool false] 168)
  have hr2 : RdB (w'.alloc (.cells #[.slice A1 l.length c1, .bool false] 168)) A1 l.length c1 l := (own_rd hown).keep (F := []) ((Ch.refl _ _).alloc _) (by simp)
  rcases A1 with _ | a1
  · exact ⟨w'.heap.size, w'.heap.size, rfl, ⟨by simp, _, _, _, _, hb, by simp, rfl, hr2, by omega⟩, by omega, by omega, h2.alloc _⟩
  · have hge := own_ge hown a1.block rfl
    have hlt := own_lt hown a1.block rfl
    exact ⟨w'.heap.size, a1.block, rfl, ⟨by simp; omega, _, _, _, _, hb, by intro a ha; injection ha with ha; subst ha; exact ⟨rfl, by omega⟩, rfl, hr2, by omega⟩, by omega, by omega, h2.alloc _⟩

/-- What a reader's call that fails panics with. -/
def stop : List PanicEntry := [{ v := .iface 200 (.agg #[]), recovered := false }]

theorem must_yes (w : World) : Calls Tryz.prog 143 #[.bool true] w fun e w' => e = .returned (.tuple #[]) ∧ w = w' := by
  go_enter Tryz.func143, Tryz.ntmps143
  go_wp2
  go_end0
  exact ⟨rfl, rfl⟩
theorem must_no (w : World) : Calls Tryz.prog 143 #[.bool false] w fun e w' => e = .panicked stop ∧ w = w' := by
  go_enter Tryz.func143, Tryz.ntmps143
  go_wp2
  exact ⟨rfl, rfl, rfl⟩

end Go.Proofs.YtbkncfedahifkaaGreat

/-
  Package code, the reader: the contract of num.
-/
set_option linter.unusedVariables false
namespace Go.Proofs.YtbkncfedahifkaaGreat
open Go.RowKit

theorem Tryz.info5s : (Tryz.prog.info? 5).map (·.size) = some 1 := by kernel_rfl

/-- What num comes to. -/
def NumPost (w : World) (b g : Nat) (r : Option (Nat × List UInt8)) (e : Ending) (w' : World) : Prop :=
  Ch [b] w w' ∧ match r with
    | some (x, l) => e = .returned (.int .u64 (x : Int)) ∧ IsRd w' b g (some l)
    | none => e = .panicked stop ∧ ∃ l, IsRd w' b g (some l)

/-- At the head of a round. -/
def NumAt (w : World) (b g : Nat) (l : List UInt8) (k m : Nat) (wr : World) : Prop :=
  ∃ l', decN l = decG k m l' ∧ m < 128 ^ k ∧ k ≤ 10 ∧ IsRd wr b g (some l') ∧ Ch [b] w wr

theorem num_none {w wr : World} {b g : Nat} {l l' : List UInt8} {A : Option Addr} {n c : Nat} (hgl : g < wr.heap.size) (hch : Ch [b] w wr) (hd : decN l = none) (hb : wr.heap[b]? = some (.cells #[.slice A n c, .bool false] 168 (0, 0)))
    (hA : ∀ a, A = some a → a.block = g ∧ g ≠ b) (hrd : RdB wr A n c l') (hn : n ≤ 140737488355328) : NumPost w b g (decN l) (.panicked stop) wr :=
  ⟨hch, by rw [hd]; exact ⟨rfl, l', hgl, A, n, c, false, hb, hA, rfl, hrd, hn⟩⟩

theorem num_fail {w wr : World} {b g : Nat} {l l' : List UInt8} (hch : Ch [b] w wr) (hd : decN l = none) (h : IsRd wr b g (some l')) : NumPost w b g (decN l) (.panicked stop) wr :=
  ⟨hch, by rw [hd]; exact ⟨rfl, l', h⟩⟩
theorem num_done {w wr : World} {b g x : Nat} {l l' : List UInt8} (hch : Ch [b] w wr) (hd : decN l = some (x, l')) (h : IsRd wr b g (some l')) : NumPost w b g (decN l) (.returned (.int .u64 (x : Int))) wr :=
  ⟨hch, by rw [hd]; exact ⟨rfl, h⟩⟩

theorem rd_step {wr : World} {b g : Nat} {r : List UInt8} {A A' : Option Addr} {n c n' c' : Nat} (hgl : g < wr.heap.size) (hb : wr.heap[b]? = some (.cells #[.slice A n c, .bool false] 168 (0, 0)))
    (hA : ∀ a, A = some a → a.block = g ∧ g ≠ b) (hblk : ∀ a', A' = some a' → ∃ a, A = some a ∧ a'.block = a.block) (hrd : RdB wr A' n' c' r) (hn : n' ≤ 140737488355328) :
    IsRd (wr.setCell ⟨b, 0, none⟩ (.slice A' n' c')) b g (some r) := by
  have hA' : ∀ a', A' = some a' → a'.block = g ∧ g ≠ b := by
    intro a' ha'
    obtain ⟨a, h1, h2⟩ := hblk a' ha'
    rw [h2]
    exact hA a h1
  refine ⟨by simpa using hgl, A', n', c', false, ?_, hA', rfl, hrd.keep (F := [b]) ((Ch.refl _ _).setCell _ _ (by simp)) ?_, hn⟩
  · have := heap_setCell_same wr b 0 #[.slice A n c, .bool false] 168 (.slice A' n' c') hb
    simpa using this
  · intro a ha
    rw [(hA' a ha).1]
    simpa using (hA' a ha).2

/-- The number behind one byte more. -/
def numV (m k : Nat) (x : UInt8) : Nat := m + x.toNat % 128 * 128 ^ k
theorem num_val (m k : Nat) (x : UInt8) (hm : m < 128 ^ k) (hk : k < 10) (hx9 : k < 9 ∨ x.toNat % 128 ≤ 1) :
    bits BinOp.or IntKind.u64 (m : Int) (IntKind.u64.wrap (IntKind.u64.wrap (bits BinOp.andNot IntKind.u8 (x.toNat : Int) 128) * 2 ^ (7 * k))) = ((numV m k x : Nat) : Int) := by
  have key : ∀ z : Fin 256, IntKind.u64.wrap (bits BinOp.andNot IntKind.u8 (z.val : Int) 128) = ((z.val % 128 : Nat) : Int) := by decide +kernel
  have h1 := key ⟨x.toNat, x.toNat_lt⟩
  simp only at h1
  rw [h1]
  have hk2 : (2 : Int) ^ (7 * k) = ((128 ^ k : Nat) : Int) := by
    have h7 : (2 : Int) ^ 7 = ((128 : Nat) : Int) := by decide
    rw [Int.pow_mul, h7, ← Int.natCast_pow]
  rw [hk2]
  have hlt : x.toNat % 128 * 128 ^ k < 18446744073709551616 := by
    rcases hx9 with h9 | h9
    · have : 128 ^ k ≤ 128 ^ 8 := Nat.pow_le_pow_right (by omega) (by omega)
      have h3 : x.toNat % 128 * 128 ^ k ≤ 127 * 128 ^ 8 := Nat.mul_le_mul (by omega) this
      omega
    · have : 128 ^ k ≤ 128 ^ 9 := Nat.pow_le_pow_right (by omega) (by omega)
      have h3 : x.toNat % 128 * 128 ^ k ≤ 1 * 128 ^ 9 := Nat.mul_le_mul h9 this
      omega
  have hm64 : m < 18446744073709551616 := by
    have : 128 ^ k ≤ 128 ^ 9 := Nat.pow_le_pow_right (by omega) (by omega)
    omega
  have h4 : IntKind.u64.wrap (((x.toNat % 128 : Nat) : Int) * ((128 ^ k : Nat) : Int)) = ((x.toNat % 128 * 128 ^ k : Nat) : Int) := by
    rw [IntKind.wrap_u64, ← Int.natCast_mul]
    omega
  rw [h4, bits_or_u64_nat m _ hm64 hlt, numV]
  congr 1
  have h128 : (128 : Nat) ^ k = 2 ^ (7 * k) := by rw [Nat.pow_mul]
  rw [h128] at hm ⊢
  rw [Nat.or_comm, ← Nat.shiftLeft_eq, ← Nat.shiftLeft_add_eq_or_of_lt hm, Nat.add_comm]
theorem num_val9 (m : Nat) (x : UInt8) (hm : m < 128 ^ 9) (hx9 : x.toNat % 128 ≤ 1) :
    bits BinOp.or IntKind.u64 (m : Int) (IntKind.u64.wrap (IntKind.u64.wrap (bits BinOp.andNot IntKind.u8 (x.toNat : Int) 128) * 9223372036854775808)) = ((numV m 9 x : Nat) : Int) := by
  have h := num_val m 9 x hm (by omega) (.inr hx9)
  have e : (2 : Int) ^ (7 * 9) = 9223372036854775808 := by decide
  rwa [e] at h
theorem and_more_low (x : UInt8) (h : x.toNat < 128) : (bits BinOp.and IntKind.u8 (x.toNat : Int) 128 == 0) = true := by
  have key : ∀ z : Fin 256, z.val < 128 → (bits BinOp.and IntKind.u8 (z.val : Int) 128 == 0) = true := by decide +kernel
  exact key ⟨x.toNat, x.toNat_lt⟩ h
theorem and_more_high (x : UInt8) (h : ¬ x.toNat < 128) : (bits BinOp.and IntKind.u8 (x.toNat : Int) 128 == 0) = false := by
  have key : ∀ z : Fin 256, ¬ z.val < 128 → (bits BinOp.and IntKind.u8 (z.val : Int) 128 == 0) = false := by decide +kernel
  exact key ⟨x.toNat, x.toNat_lt⟩ h

set_option maxRecDepth 100000 in
set_option maxHeartbeats 1600000 in
theorem num_any (b g : Nat) (l : List UInt8) (w : World) (h : IsRd w b g (some l)) :
    Calls Tryz.prog 127 #[.pointer (some ⟨b, 0, none⟩)] w (NumPost w b g (decN l)) := by
  go_enter Tryz.func127, Tryz.ntmps127
  go_wp2
  go_loopw [3, 4] (fun n i wr => ∃ k m : Nat, i = .int .i64 k ∧ n = .int .u64 m ∧ NumAt w b g l k m wr) (fun _ i _ => 10 - (intOf i).toNat)
  case atStart => exact ⟨0, 0, rfl, rfl, l, rfl, by simp, by omega, h, Ch.refl _ _⟩
  case round =>
    obtain ⟨k, m, rfl, rfl, l', hd, hm, hk, ⟨hgl, A, n, c, f, hb, hA, rfl, hrd, hn⟩, hch⟩ := hrel
    have hbc := cell_at hb 0 rfl
    have hbf := free_at hb 0
    have hl' := hrd.length
    have Hd := Lib.hid hd; clear hd
    have Hm := Lib.hid hm; clear hm
    have Hgl := Lib.hid hgl
    by_cases hk10 : k < 10
    · cases l' with
      | nil =>
        have hn0 : n = 0 := by simpa using hl'.symm
        subst hn0
        clear hl'
        go_wp2_with fail
        refine (must_no _).mono ?_
        rintro e w' ⟨rfl, rfl⟩
        exact ⟨rfl, num_none hgl hch (by rw [Hd.out]; rfl) hb hA hrd hn⟩
      | cons x r =>
        have hnp : 0 < n := by rw [← hl']; simp
        have hnp' : (0 : Int) < (n : Int) := by omega
        obtain ⟨b0, o0, rfl, hcell⟩ := hrd.cell hnp
        have hx := hcell 0 (by simp)
        simp only [List.getElem_cons_zero, Nat.add_zero] at hx
        obtain ⟨i0, hi0, hsz0⟩ := Option.map_eq_some_iff.1 Tryz.info5s
        obtain ⟨A', hcut, hrd', hblk⟩ := cut_from (P := Tryz.prog) 45 5 Tryz.underlying45 hi0 hsz0 (some ⟨b0, o0, none⟩) n c 1 (by omega)
        have hrd1 := hrd' wr _ hrd
        have hcut' : ∀ W : World, (Instr.slice 45 (.slice (some ⟨b0, o0, none⟩) n c) (some (.int .i64 1)) none none).run Tryz.prog W = .ok (.slice A' (n - 1) (c - 1)) W := fun W => hcut .i64 W
        clear hcut hrd' hcell hl'
        have hx8 := u8_lt x
        have hw1 : Ch [b] w (wr.setCell ⟨b, 0, none⟩ (.slice A' (n - 1) (c - 1))) := hch.setCell _ _ (by simp)
        have hnext : IsRd (wr.setCell ⟨b, 0, none⟩ (.slice A' (n - 1) (c - 1))) b g (some r) := rd_step hgl hb hA hblk hrd1 (by omega)
        by_cases h9 : k = 9 ∧ 1 < x.toNat
        · obtain ⟨rfl, h1x⟩ := h9
          have h1x' : ((x.toNat : Int) ≤ 1) = False := by simp; omega
          go_wp2_with fail
          refine (must_yes _).mono ?_
          rintro e w' ⟨rfl, rfl⟩
          go_wp2_with fail
          refine (must_no _).mono ?_
          rintro e w' ⟨rfl, rfl⟩
          exact ⟨rfl, num_fail hw1 (by rw [Hd.out]; simp [decG, h1x]) hnext⟩
        · have h9' : k < 9 ∨ (k = 9 ∧ x.toNat ≤ 1) := by omega
          have hdec : decG k m (x :: r) = if x.toNat < 128 then (if x.toNat = 0 ∧ k ≠ 0 then none else some (m + x.toNat * 128 ^ k, r)) else decG (k + 1) (m + (x.toNat - 128) * 128 ^ k) r := by
            rw [decG, if_neg (by omega)]
          have Hdec := Lib.hid hdec; clear hdec
          have hval := num_val m k x Hm.out hk10 (by omega)
          have Hval := Lib.hid hval; clear hval
          by_cases hx128 : x.toNat < 128
          · have hand := and_more_low x hx128
            by_cases hx0 : x.toNat = 0
            · have Hx0 := Lib.hid hx0
              have hne : ((x.toNat : Int) != 0) = false := by simp [hx0]
              clear hx0
              by_cases hk0 : k = 0
              · have hke : ((k : Int) == 0) = true := by simp [hk0]
                have Hk0 := Lib.hid hk0
                clear hk0
                have h9'' : k < 9 := by have := Hk0.out; omega
                go_wp2_with fail
                refine (must_yes _).mono ?_
                rintro e w' ⟨rfl, rfl⟩
                go_wp2_with fail
                refine (must_yes _).mono ?_
                rintro e w' ⟨rfl, rfl⟩
                go_wp2_with fail
                refine (must_yes _).mono ?_
                rintro e w' ⟨rfl, rfl⟩
                rw [Hval.out]
                go_wp2_with fail
                go_ret
                refine num_done hw1 ?_ hnext
                rw [Hd.out, Hdec.out, if_pos hx128, if_neg (fun h => h.2 Hk0.out), numV, Nat.mod_eq_of_lt hx128]
              · have hke : ((k : Int) == 0) = false := by simp; omega
                rcases (show k < 9 ∨ (k = 9 ∧ decide ((x.toNat : Int) ≤ 1) = true) from by rcases h9' with h | ⟨h, h'⟩; exact .inl h; exact .inr ⟨h, by simp; omega⟩) with h9' | ⟨rfl, hle⟩
                all_goals
                  go_wp2_with fail
                  refine (must_yes _).mono ?_
                  rintro e w' ⟨rfl, rfl⟩
                  go_wp2_with fail
                  refine (must_yes _).mono ?_
                  rintro e w' ⟨rfl, rfl⟩
                  go_wp2_with fail
                  refine (must_no _).mono ?_
                  rintro e w' ⟨rfl, rfl⟩
                  exact ⟨rfl, num_fail hw1 (by rw [Hd.out, Hdec.out, if_pos hx128, if_pos ⟨Hx0.out, by omega⟩]) hnext⟩
            · have hne : ((x.toNat : Int) != 0) = true := by simp; omega
              rcases (show k < 9 ∨ (k = 9 ∧ decide ((x.toNat : Int) ≤ 1) = true) from by rcases h9' with h | ⟨h, h'⟩; exact .inl h; exact .inr ⟨h, by simp; omega⟩) with h9' | ⟨rfl, hle⟩
              all_goals
                go_wp2_with fail
                refine (must_yes _).mono ?_
                rintro e w' ⟨rfl, rfl⟩
                go_wp2_with fail
                refine (must_yes _).mono ?_
                rintro e w' ⟨rfl, rfl⟩
                go_wp2_with fail
                refine (must_yes _).mono ?_
                rintro e w' ⟨rfl, rfl⟩
                first | rw [Hval.out] | rw [num_val9 m x Hm.out (by have := of_decide_eq_true hle; omega)]
                go_wp2_with fail
                go_ret
                refine num_done hw1 ?_ hnext
                rw [Hd.out, Hdec.out, if_pos hx128, if_neg (fun h => hx0 h.1), numV, Nat.mod_eq_of_lt hx128]
          · have hand := and_more_high x hx128
            have h9'' : k < 9 := by omega
            go_wp2_with fail
            refine (must_yes _).mono ?_
            rintro e w' ⟨rfl, rfl⟩
            go_wp2_with fail
            refine (must_yes _).mono ?_
            rintro e w' ⟨rfl, rfl⟩
            go_wp2_with fail
            go_roundw
            case rel =>
              refine ⟨k + 1, numV m k x, by go_num, by rw [Hval.out], r, ?_, ?_, by omega, hnext, hw1⟩
              · rw [Hd.out, Hdec.out, if_neg hx128, numV, show x.toNat % 128 = x.toNat - 128 from by omega]
              · have h1 : x.toNat % 128 * 128 ^ k ≤ 127 * 128 ^ k := Nat.mul_le_mul_right _ (by omega)
                have h2 := Hm.out
                rw [Nat.pow_succ, numV]
                omega
            case measure => simp [intOf]; omega
    · go_wp2_with fail
      refine (must_no _).mono ?_
      rintro e w' ⟨rfl, rfl⟩
      refine ⟨rfl, num_fail hch ?_ ⟨hgl, A, n, c, false, hb, hA, rfl, hrd, hn⟩⟩
      rw [Hd.out]
      cases l' with
      | nil => rfl
      | cons x r => rw [decG, if_pos (by omega)]

end Go.Proofs.YtbkncfedahifkaaGreat

/-
  Package code, the reader: the contracts of int, text and bool (the inner ones).
-/
set_option linter.unusedVariables false
namespace Go.Proofs.YtbkncfedahifkaaGreat
open Go.RowKit

/-- What an inner read comes to. -/
def RPost (w : World) (b g : Nat) (r : Option (Value × List UInt8)) (e : Ending) (w' : World) : Prop :=
  Ch [b] w w' ∧ match r with
    | some (v, l) => e = .returned v ∧ IsRd w' b g (some l)
    | none => e = .panicked stop ∧ ∃ l, IsRd w' b g (some l)

def rNum (l : List UInt8) : Option (Value × List UInt8) := (decN l).map fun p => (Value.int .u64 (p.1 : Int), p.2)
def rInt (l : List UInt8) : Option (Value × List UInt8) := (decN l).map fun p => (Value.int .i64 (unzz p.1), p.2)
def rText (l : List UInt8) : Option (Value × List UInt8) := (decT l).map fun p => (Value.string (str p.1), p.2)
def rBool (l : List UInt8) : Option (Value × List UInt8) := (decB l).map fun p => (Value.bool p.1, p.2)

theorem num_r {w w' : World} {b g : Nat} {l : List UInt8} {e : Ending} (h : NumPost w b g (decN l) e w') : RPost w b g (rNum l) e w' := by
  unfold rNum
  cases hd : decN l with
  | none => rw [hd] at h; exact h
  | some p => rw [hd] at h; exact h

theorem xor_zero_i64 (a : Int) (h0 : -9223372036854775808 ≤ a) (h1 : a ≤ 9223372036854775807) : bits BinOp.xor IntKind.i64 a 0 = a := by
  show IntKind.i64.wrap ((BitVec.ofInt 64 a ^^^ BitVec.ofInt 64 0).toNat : Int) = a
  rw [show BitVec.ofInt 64 0 = 0#64 from rfl, BitVec.xor_zero, BitVec.toNat_ofInt]
  have e : ((2 ^ 64 : Nat) : Int) = 18446744073709551616 := by decide
  rw [e]
  rw [IntKind.wrap_i64]
  omega
theorem int_val (x : Nat) (hx : x < 18446744073709551616) :
    bits BinOp.xor IntKind.i64 (wrap64 ((x : Int) / 2)) (wrap64 (-wrap64 (bits BinOp.and IntKind.u64 (x : Int) 1))) = unzz x := by
  rw [Lib.u64_and1 _ (by omega) (by omega)]
  have h1 : wrap64 ((x : Int) / 2) = ((x / 2 : Nat) : Int) := by unfold wrap64; omega
  have h2 : wrap64 ((x : Int) % 2) = (x : Int) % 2 := by unfold wrap64; omega
  rw [h1, h2]
  unfold unzz
  split
  · rename_i h
    have h3 : wrap64 (-((x : Int) % 2)) = -1 := by unfold wrap64; omega
    rw [h3, bits_xor_comm, Lib.i64_not _ (by omega)]
  · rename_i h
    have h3 : wrap64 (-((x : Int) % 2)) = 0 := by unfold wrap64; omega
    rw [h3, xor_zero_i64 _ (by omega) (by omega)]

set_option maxRecDepth 100000 in
theorem int_any (b g : Nat) (l : List UInt8) (w : World) (h : IsRd w b g (some l)) :
    Calls Tryz.prog 97 #[.pointer (some ⟨b, 0, none⟩)] w (RPost w b g (rInt l)) := by
  cases hd : decN l with
  | none =>
    go_enter Tryz.func97, Tryz.ntmps97
    go_wp2_with fail
    refine (num_any b g l _ h).mono ?_
    rintro e w' ⟨hc, he⟩
    rw [hd] at he
    obtain ⟨rfl, l', hl'⟩ := he
    exact ⟨rfl, hc, by rw [rInt, hd]; exact ⟨rfl, l', hl'⟩⟩
  | some p =>
    obtain ⟨x, r⟩ := p
    have hx := decN_lt hd
    go_enter Tryz.func97, Tryz.ntmps97
    go_wp2_with fail
    refine (num_any b g l _ h).mono ?_
    rintro e w' ⟨hc, he⟩
    rw [hd] at he
    obtain ⟨rfl, hl'⟩ := he
    have hv := int_val x hx
    have Hv := Lib.hid hv
    clear hx hv
    go_wp2_with fail
    go_ret
    refine ⟨hc, ?_⟩
    rw [rInt, hd]
    exact ⟨by simp only [← Hv.out]; rfl, hl'⟩


set_option maxRecDepth 100000 in
theorem bool_any (b g : Nat) (l : List UInt8) (w : World) (h : IsRd w b g (some l)) :
    Calls Tryz.prog 116 #[.pointer (some ⟨b, 0, none⟩)] w (RPost w b g (rBool l)) := by
  obtain ⟨hgl, A, n, c, f, hb, hA, rfl, hrd, hn⟩ := h
  have hbc := cell_at hb 0 rfl
  have hbf := free_at hb 0
  have hl := hrd.length
  cases l with
  | nil =>
    have hn0 : n = 0 := by simpa using hl.symm
    subst hn0
    clear hl
    go_enter Tryz.func116, Tryz.ntmps116
    go_wp2_with fail
    refine (must_no _).mono ?_
    rintro e w' ⟨rfl, rfl⟩
    exact ⟨rfl, Ch.refl _ _, rfl, [], hgl, A, 0, c, false, hb, hA, rfl, hrd, by omega⟩
  | cons x r =>
    have hnp : 0 < n := by rw [← hl]; simp
    have hnp' : (0 : Int) < (n : Int) := by omega
    obtain ⟨b0, o0, rfl, hcell⟩ := hrd.cell hnp
    have hx := hcell 0 (by simp)
    simp only [List.getElem_cons_zero, Nat.add_zero] at hx
    obtain ⟨i0, hi0, hsz0⟩ := Option.map_eq_some_iff.1 Tryz.info5s
    obtain ⟨A', hcut, hrd', hblk⟩ := cut_from (P := Tryz.prog) 45 5 Tryz.underlying45 hi0 hsz0 (some ⟨b0, o0, none⟩) n c 1 (by omega)
    have hrd1 := hrd' w _ hrd
    have hcut' : ∀ W : World, (Instr.slice 45 (.slice (some ⟨b0, o0, none⟩) n c) (some (.int .i64 1)) none none).run Tryz.prog W = .ok (.slice A' (n - 1) (c - 1)) W := fun W => hcut .i64 W
    have hnext : IsRd (w.setCell ⟨b, 0, none⟩ (.slice A' (n - 1) (c - 1))) b g (some r) := rd_step hgl hb hA hblk hrd1 (by omega)
    have hw1 : Ch [b] w (w.setCell ⟨b, 0, none⟩ (.slice A' (n - 1) (c - 1))) := (Ch.refl _ _).setCell _ _ (by simp)
    clear hcut hrd' hcell hl
    by_cases hx1 : x.toNat ≤ 1
    · have hle : decide ((x.toNat : Int) ≤ 1) = true := by simp; omega
      go_enter Tryz.func116, Tryz.ntmps116
      go_wp2_with fail
      refine (must_yes _).mono ?_
      rintro e w' ⟨rfl, rfl⟩
      go_wp2_with fail
      go_ret
      refine ⟨hw1, ?_⟩
      rw [rBool, decB, if_pos hx1]
      refine ⟨?_, hnext⟩
      show Ending.returned (.bool ((x.toNat : Int) == 1)) = .returned (.bool (x.toNat == 1))
      congr 2
      rw [Bool.eq_iff_iff]
      simp
      omega
    · have hle : decide ((x.toNat : Int) ≤ 1) = false := by simp; omega
      go_enter Tryz.func116, Tryz.ntmps116
      go_wp2_with fail
      refine (must_no _).mono ?_
      rintro e w' ⟨rfl, rfl⟩
      refine ⟨rfl, Ch.refl _ _, ?_⟩
      rw [rBool, decB, if_neg hx1]
      exact ⟨rfl, _, hgl, _, n, c, false, hb, hA, rfl, hrd, by omega⟩

set_option maxRecDepth 100000 in
theorem text_any (b g : Nat) (l : List UInt8) (w : World) (h : IsRd w b g (some l)) :
    Calls Tryz.prog 118 #[.pointer (some ⟨b, 0, none⟩)] w (RPost w b g (rText l)) := by
  cases hd : decN l with
  | none =>
    go_enter Tryz.func118, Tryz.ntmps118
    go_wp2_with fail
    refine (num_any b g l _ h).mono ?_
    rintro e w' ⟨hc, he⟩
    rw [hd] at he
    obtain ⟨rfl, l', hl'⟩ := he
    exact ⟨rfl, hc, by rw [rText, decT, hd]; exact ⟨rfl, l', hl'⟩⟩
  | some p =>
    obtain ⟨x, r⟩ := p
    have hx := decN_lt hd
    have Hx := Lib.hid hx
    clear hx
    go_enter Tryz.func118, Tryz.ntmps118
    go_wp2_with fail
    refine (num_any b g l _ h).mono ?_
    rintro e w1 ⟨hc, he⟩
    rw [hd] at he
    obtain ⟨rfl, hgl, A, n, c, f, hb, hA, rfl, hrd, hn⟩ := he
    have hbc := cell_at hb 0 rfl
    have hbf := free_at hb 0
    have hl := hrd.length
    by_cases hxn : x ≤ n
    · have hxr : x ≤ r.length := by omega
      obtain ⟨i0, hi0, hsz0⟩ := Option.map_eq_some_iff.1 Tryz.info5s
      obtain ⟨A', hcut, hrd', hblk⟩ := cut_from (P := Tryz.prog) 45 5 Tryz.underlying45 hi0 hsz0 A n c x hxn
      have hrd1 : RdB w1 A' (n - x) (c - x) (r.drop x) := by have := hrd' w1 _ hrd; rwa [Nat.mul_one, bvs_drop] at this
      have hcut' := hcut .u64
      have hrt : RdB w1 A x c (r.take x) := by have := hrd.take x hxn; rwa [Nat.mul_one, bvs_take] at this
      have hcs := conv_str (P := Tryz.prog) hrt 45 5 9 Tryz.underlying45 Tryz.underlying5 Tryz.underlying9
      have hnext : IsRd (w1.setCell ⟨b, 0, none⟩ (.slice A' (n - x) (c - x))) b g (some (r.drop x)) := rd_step hgl hb hA hblk hrd1 (by omega)
      have hw1 : Ch [b] w (w1.setCell ⟨b, 0, none⟩ (.slice A' (n - x) (c - x))) := hc.setCell _ _ (by simp)
      have hcap := hrd.cap
      have hmax : c ≤ 9223372036854775807 := by have := hrd.max; simpa [maxLen] using this
      clear hcut hrd' hl
      go_wp2_with fail
      refine (must_yes _).mono ?_
      rintro e w' ⟨rfl, rfl⟩
      go_wp2_with fail
      go_ret
      refine ⟨hw1, ?_⟩
      rw [rText, decT, hd]
      simp only [Option.bind_some, if_pos hxr]
      exact ⟨rfl, hnext⟩
    · go_wp2_with fail
      refine (must_no _).mono ?_
      rintro e w' ⟨rfl, rfl⟩
      refine ⟨rfl, hc, ?_⟩
      rw [rText, decT, hd]
      rw [Option.bind_some, if_neg (show ¬ x ≤ r.length by omega)]
      exact ⟨rfl, _, hgl, A, n, c, false, hb, hA, rfl, hrd, hn⟩

end Go.Proofs.YtbkncfedahifkaaGreat

/-
  Package code, the reader: the deferred closure of try.
-/
set_option linter.unusedVariables false
set_option linter.unusedSimpArgs false
namespace Go.Proofs.YtbkncfedahifkaaGreat
open Go.RowKit

set_option maxRecDepth 100000 in
theorem catch_idle (p q : Addr) (w : World) :
    CallsD Tryz.prog 128 #[.pointer (some p), .pointer (some q)] .returning w fun e u' w' => e = .returned (.tuple #[]) ∧ u' = .returning ∧ w' = w := by
  refine callsD_of_wpS Tryz.func128 rfl fun c₀ cs hu => ?_
  simp only [Tryz.ntmps128, List.size_toArray, List.length_cons, List.length_nil, Nat.reduceAdd, Nat.reduceSub, Array.replicate_succ, Array.replicate_zero, List.push_toArray, List.append_toArray, List.nil_append, List.cons_append]
  apply wpS_seq
  apply wpS_region
  simp [wpOpsS, go_sem, recoverD, hu, Exit.thenS]
  have hu' : c₀ = { c₀ with mode := .returning } := by cases c₀; simp_all
  refine wpS_of_wp ?_
  go_wp2
  refine ⟨rfl, .returning, by rw [← hu'], ?_⟩
  simp [results, Tryz.results128]

set_option maxRecDepth 100000 in
/-- The panic of must is caught: the reader failed; the answer is no. -/
theorem catch_stop (p q b : Nat) (r : Value) (older : List PanicEntry) (w : World) (hp : w.heap[p]? = some (.cells #[.pointer (some ⟨b, 0, none⟩)] 132 (0, 0)))
    (hb : w.heap[b]? = some (.cells #[r, .bool false] 168 (0, 0))) (hq : w.heap[q]? = some (.cells #[.bool false] 4 (0, 0))) (hqb : q ≠ b) :
    CallsD Tryz.prog 128 #[.pointer (some ⟨p, 0, none⟩), .pointer (some ⟨q, 0, none⟩)] (.panicking ({ v := .iface 200 (.agg #[]), recovered := false } :: older)) w fun e u' w' =>
      e = .returned (.tuple #[]) ∧ u' = .panicking ({ v := .iface 200 (.agg #[]), recovered := true } :: older) ∧ w' = ((w.setCell ⟨b, 1, none⟩ (.bool true)).setCell ⟨q, 0, none⟩ (.bool false)).alloc (.cells #[] 200) := by
  have hpl := lt_of_at hp
  have hbl := lt_of_at hb
  have hql := lt_of_at hq
  refine callsD_of_wpS Tryz.func128 rfl fun c₀ cs hu => ?_
  simp only [Tryz.ntmps128, List.size_toArray, List.length_cons, List.length_nil, Nat.reduceAdd, Nat.reduceSub, Array.replicate_succ, Array.replicate_zero, List.push_toArray, List.append_toArray, List.nil_append, List.cons_append]
  apply wpS_seq
  apply wpS_region
  simp [wpOpsS, go_sem, recoverD, hu, Exit.thenS]
  refine wpS_of_wp ?_
  have hta : ∀ W : World, (Instr.typeAssert (.iface 200 (.agg #[])) 20 200 true).run Tryz.prog W = .ok (.tuple #[.agg #[], .bool true]) W := fun _ => by kernel_rfl
  have hpc := cell_at hp 0 rfl
  have hbc := cell_at hb 1 rfl
  have hbf := free_at hb 1
  have hqc := cell_at hq 0 rfl
  have hqf := free_at hq 0
  go_wp2
  refine ⟨rfl, _, rfl, ?_⟩
  simp [results, Tryz.results128]


/-- What a closure of the reader's comes to: it read, and laid what it read in X; or it panicked. -/
def CPost (w : World) (b g X : Nat) (T : TypeId) (r : Option (Value × List UInt8)) (e : Ending) (w' : World) : Prop :=
  Ch [b, X] w w' ∧ match r with
    | some (v, l) => e = .returned (.tuple #[]) ∧ IsRd w' b g (some l) ∧ w'.heap[X]? = some (.cells #[v] T (0, 0))
    | none => e = .panicked stop ∧ ∃ l, IsRd w' b g (some l)
/-- What try comes to. -/
def TPost (w : World) (b g X : Nat) (T : TypeId) (r : Option (Value × List UInt8)) (e : Ending) (w' : World) : Prop :=
  e = .returned (.bool r.isSome) ∧ Ch [b, X] w w' ∧ match r with
    | some (v, l) => IsRd w' b g (some l) ∧ w'.heap[X]? = some (.cells #[v] T (0, 0))
    | none => IsRd w' b g none

set_option maxRecDepth 100000 in
theorem try_failed (f : Value) (b g : Nat) (w : World) (h : IsRd w b g none) :
    Calls Tryz.prog 95 #[.pointer (some ⟨b, 0, none⟩), f] w fun e w' => e = .returned (.bool false) ∧ Ch [] w w' := by
  obtain ⟨hgl, A, n, c, f, hb, hA, rfl⟩ := h
  have hlt := lt_of_at hb
  have hbc0 := cell_at hb 0 rfl
  have hbc1 := cell_at hb 1 rfl
  have hbf := free_at hb 1
  go_enter_defers Tryz.func95, Tryz.ntmps95
  go_wp2
  simp [bodyPostD, Leaves, settle, results, Tryz.results95, go_sem]
  exact ((Ch.refl _ _).alloc _).alloc _

set_option maxRecDepth 100000 in
set_option maxHeartbeats 1600000 in
theorem try_any (k : Nat) (cap : Array Value) (b g X : Nat) (T : TypeId) (r : Option (Value × List UInt8)) (l : List UInt8) (w : World) (hcf : ∀ W, (callFunc k cap).run Tryz.prog W = .ok (.enter k cap) W)
    (hX : X < w.heap.size) (h : IsRd w b g (some l)) (hC : ∀ W, Ch [] w W → Calls Tryz.prog k cap W (CPost W b g X T r)) :
    Calls Tryz.prog 95 #[.pointer (some ⟨b, 0, none⟩), .func (.func k) #[] cap] w (TPost w b g X T r) := by
  have h' := h
  obtain ⟨hgl, A, n, c, f, hb, hA, rfl, hrd, hn⟩ := h
  have hlt := lt_of_at hb
  have hbc0 := cell_at hb 0 rfl
  have hbc1 := cell_at hb 1 rfl
  have hbf := free_at hb 1
  have hmf : ∀ (fn : Fn) (first cap : Array Value) (w : World), (Instr.makeFunc fn first cap).run Tryz.prog w = .ok (.func fn first cap) w := fun _ _ _ _ => rfl
  go_enter_defers Tryz.func95, Tryz.ntmps95
  go_wp2_with fail
  generalize hW : (w.alloc (.cells #[.pointer (some ⟨b, 0, none⟩)] 132)).alloc (.cells #[.bool false] 4) = W
  have hch : Ch [] w W := by rw [← hW]; exact ((Ch.refl _ _).alloc _).alloc _
  have hp : W.heap[w.heap.size]? = some (.cells #[.pointer (some ⟨b, 0, none⟩)] 132 (0, 0)) := by rw [← hW]; exact heap_alloc2_old w _ _
  have hq : W.heap[w.heap.size + 1]? = some (.cells #[.bool false] 4 (0, 0)) := by rw [← hW]; exact heap_alloc2_new w _ _
  clear hW
  refine (hC W hch).mono ?_
  rintro e w1 ⟨hc1, he⟩
  cases r with
  | none =>
    obtain ⟨rfl, l', hgl', A1, n1, c1, f1, hb1, hA1, rfl, hrd1, hn1⟩ := he
    have hp1 := hc1.at_ hp (by simp; omega)
    have hq1 := hc1.at_ hq (by simp; omega)
    refine leaves_cons (f := 128) (args := #[.pointer (some ⟨w.heap.size, 0, none⟩), .pointer (some ⟨w.heap.size + 1, 0, none⟩)]) (by simp) (by simp [go_sem]) ?_
    refine (catch_stop _ _ b _ [] w1 hp1 hb1 hq1 (by omega)).mono ?_
    rintro e u w2 ⟨rfl, rfl, rfl⟩
    have hb2 : (w1.setCell ⟨b, 1, none⟩ (.bool true)).heap[b]? = some (.cells #[.slice A1 n1 c1, .bool true] 168 (0, 0)) := by
      have := heap_setCell_same w1 b 1 _ 168 (.bool true) hb1
      simpa using this
    have hq2 : (w1.setCell ⟨b, 1, none⟩ (.bool true)).heap[w.heap.size + 1]? = some (.cells #[.bool false] 4 (0, 0)) := ((Ch.refl [b] w1).setCell _ _ (by simp)).at_ hq1 (by simp; omega)
    have hq3 : ((w1.setCell ⟨b, 1, none⟩ (.bool true)).setCell ⟨w.heap.size + 1, 0, none⟩ (.bool false)).heap[w.heap.size + 1]? = some (.cells #[.bool false] 4 (0, 0)) := by
      have := heap_setCell_same _ (w.heap.size + 1) 0 _ 4 (.bool false) hq2
      simpa using this
    have hb3 : ((w1.setCell ⟨b, 1, none⟩ (.bool true)).setCell ⟨w.heap.size + 1, 0, none⟩ (.bool false)).heap[b]? = some (.cells #[.slice A1 n1 c1, .bool true] 168 (0, 0)) :=
      ((Ch.refl [w.heap.size + 1] _).setCell _ _ (by simp)).at_ hb2 (by simp; omega)
    have hq4 := ((Ch.refl [] _).alloc (.cells #[] 200)).at_ hq3 (by simp)
    have hb4 := ((Ch.refl [] _).alloc (.cells #[] 200)).at_ hb3 (by simp)
    have hq4c := cell_at hq4 0 rfl
    have hs1 := hc1.size
    have hs := hch.size
    simp only [Leaves, settle, List.dropWhile_nil]
    refine ⟨.bool false, by simp [results, Tryz.results95, go_sem, hq4c], rfl, ?_, ?_⟩
    · refine (((((hch.mono (G := [b, X]) (by simp)).trans hc1 (by simp)).setCell _ _ (by simp)).setCell _ _ (by simp)).alloc _)
    · exact ⟨by simp; omega, A1, n1, c1, true, hb4, hA1, rfl⟩
  | some q =>
    obtain ⟨v, l'⟩ := q
    obtain ⟨rfl, hl', hX'⟩ := he
    have hq1 := hc1.at_ hq (by simp; omega)
    have hqc := cell_at hq1 0 rfl
    have hqf := free_at hq1 0
    go_wp2_with fail
    refine leaves_cons (f := 128) (args := #[.pointer (some ⟨w.heap.size, 0, none⟩), .pointer (some ⟨w.heap.size + 1, 0, none⟩)]) (by simp) (by simp [go_sem]) ?_
    refine (catch_idle _ _ _).mono ?_
    rintro e u w2 ⟨rfl, rfl, rfl⟩
    have hq2 := World.cell?_setCell_same (v := .bool true) (h := hqc)
    have hset : Ch [w.heap.size + 1] w1 (w1.setCell ⟨w.heap.size + 1, 0, none⟩ (.bool true)) := (Ch.refl _ _).setCell _ _ (by simp)
    simp only [Leaves, settle]
    refine ⟨.bool true, by simp [results, Tryz.results95, go_sem, hq2], rfl, ?_, ?_, ?_⟩
    · exact (((hch.mono (G := [b, X]) (by simp)).trans hc1 (by simp)).setCell _ _ (by simp))
    · exact hl'.keep hset (by simp; omega) (by simp; omega)
    · exact hset.at_ hX' (by simp; omega)

end Go.Proofs.YtbkncfedahifkaaGreat

/-
  Package code, the reader: the contracts of Num, Int, Text, Bool, and of their closures. (Written by wip/tools/gen_router.py.)
-/
set_option linter.unusedVariables false
namespace Go.Proofs.YtbkncfedahifkaaGreat
open Go.RowKit

/-- What a call answers: what was read, or nothing. -/
def ans (zero : Value) (r : Option (Value × List UInt8)) : Value := match r with | some (v, _) => v | none => zero

theorem IsRd.alloc {w : World} {b g : Nat} {st : Option (List UInt8)} (h : IsRd w b g st) (o : Obj) : IsRd (w.alloc o) b g st := h.nil ((Ch.refl _ _).alloc o)

theorem rNum_shape {l l' : List UInt8} {v : Value} (h : rNum l = some (v, l')) : ∃ x : Nat, v = .int .u64 (x : Int) := by
  unfold rNum at h
  cases hd : decN l with
  | none => rw [hd] at h; cases h
  | some p => rw [hd] at h; injection h with h; injection h with h1 h2; exact ⟨p.1, h1.symm⟩
theorem rInt_shape {l l' : List UInt8} {v : Value} (h : rInt l = some (v, l')) : ∃ x : Int, v = .int .i64 x := by
  unfold rInt at h
  cases hd : decN l with
  | none => rw [hd] at h; cases h
  | some p => rw [hd] at h; injection h with h; injection h with h1 h2; exact ⟨unzz p.1, h1.symm⟩
theorem rText_shape {l l' : List UInt8} {v : Value} (h : rText l = some (v, l')) : ∃ x : ByteArray, v = .string x := by
  unfold rText at h
  cases hd : decT l with
  | none => rw [hd] at h; cases h
  | some p => rw [hd] at h; injection h with h; injection h with h1 h2; exact ⟨str p.1, h1.symm⟩
theorem rBool_shape {l l' : List UInt8} {v : Value} (h : rBool l = some (v, l')) : ∃ x : Bool, v = .bool x := by
  unfold rBool at h
  cases hd : decB l with
  | none => rw [hd] at h; cases h
  | some p => rw [hd] at h; injection h with h; injection h with h1 h2; exact ⟨p.1, h1.symm⟩

set_option maxRecDepth 100000 in
theorem cnum (p X b g : Nat) (l : List UInt8) (v0 : Value) (w : World) (hp : w.heap[p]? = some (.cells #[.pointer (some ⟨b, 0, none⟩)] 132 (0, 0))) (hX : w.heap[X]? = some (.cells #[v0] 127 (0, 0))) (hXb : X ≠ b) (hXg : X ≠ g) (h : IsRd w b g (some l)) :
    Calls Tryz.prog 126 #[.pointer (some ⟨p, 0, none⟩), .pointer (some ⟨X, 0, none⟩)] w (CPost w b g X 127 (rNum l)) := by
  have hpc := cell_at hp 0 rfl
  go_enter Tryz.func126, Tryz.ntmps126
  go_wp2_with fail
  refine (num_any b g l _ h).mono ?_
  rintro e w1 hh; obtain ⟨hc, he⟩ := num_r hh
  cases hd : rNum l with
  | none =>
    rw [hd] at he
    obtain ⟨rfl, l', hl'⟩ := he
    exact ⟨rfl, hc.mono (by simp), rfl, l', hl'⟩
  | some q =>
    obtain ⟨v, l'⟩ := q
    rw [hd] at he
    obtain ⟨rfl, hl'⟩ := he
    have hX1 := hc.at_ hX (by simpa using hXb)
    have hXc := cell_at hX1 0 rfl
    have hXf := free_at hX1 0
    obtain ⟨x, rfl⟩ := rNum_shape hd
    have Hd := Lib.hid hd
    clear hd
    go_wp2_with fail
    go_end0
    have hset : Ch [X] w1 (w1.setCell ⟨X, 0, none⟩ (.int .u64 (x : Int))) := (Ch.refl _ _).setCell _ _ (by simp)
    refine ⟨(hc.mono (G := [b, X]) (by simp)).setCell _ _ (by simp), ?_⟩
    rw [Hd.out]
    refine ⟨rfl, hl'.keep hset (by simpa using fun e => hXb e.symm) (by simpa using fun e => hXg e.symm), ?_⟩
    have := heap_setCell_same w1 X 0 _ 127 (.int .u64 (x : Int)) hX1
    simpa using this

set_option maxRecDepth 100000 in
theorem rnum (b g : Nat) (st : Option (List UInt8)) (w : World) (h : IsRd w b g st) :
    Calls Tryz.prog 92 #[.pointer (some ⟨b, 0, none⟩)] w fun e w' => e = .returned (ans (.int .u64 0) (st.bind rNum)) ∧ IsRd w' b g ((st.bind rNum).map (·.2)) ∧ Ch [b] w w' := by
  have hlt := h.lt
  have hgl := h.1
  have hmf : ∀ (fn : Fn) (first cap : Array Value) (w : World), (Instr.makeFunc fn first cap).run Tryz.prog w = .ok (.func fn first cap) w := fun _ _ _ _ => rfl
  have hW : ∀ W, W = (w.alloc (.cells #[.pointer (some ⟨b, 0, none⟩)] 132)).alloc (.cells #[(.int .u64 0)] 127) → Ch [] w W ∧ W.heap[w.heap.size]? = some (.cells #[.pointer (some ⟨b, 0, none⟩)] 132 (0, 0)) ∧ W.heap[w.heap.size + 1]? = some (.cells #[(.int .u64 0)] 127 (0, 0)) ∧ W.heap.size = w.heap.size + 2 := by
    rintro W rfl
    exact ⟨((Ch.refl _ _).alloc _).alloc _, heap_alloc2_old w _ _, heap_alloc2_new w _ _, by simp⟩
  cases st with
  | none =>
    have hf := fun f => try_failed f b g ((w.alloc (.cells #[.pointer (some ⟨b, 0, none⟩)] 132)).alloc (.cells #[(.int .u64 0)] 127)) (h.nil (hW _ rfl).1)
    have hch := (hW _ rfl).1
    clear hW
    go_enter Tryz.func92, Tryz.ntmps92
    go_wp2_with fail
    refine (hf _).mono ?_
    rintro e w1 ⟨rfl, h2⟩
    clear hf
    go_wp2_with fail
    go_ret
    exact ⟨rfl, (h.nil hch).nil h2, (hch.trans' h2).mono (by simp)⟩
  | some l =>
    obtain ⟨hch, hp, hX, hsz⟩ := hW _ rfl
    clear hW
    have hT := try_any 126 #[.pointer (some ⟨w.heap.size, 0, none⟩), .pointer (some ⟨w.heap.size + 1, 0, none⟩)] b g (w.heap.size + 1) 127 (rNum l) l _ (by intro W; kernel_rfl) (by omega) (h.nil hch)
      (fun W hc => cnum _ _ b g l _ W (hc.at_ hp (by simp)) (hc.at_ hX (by simp)) (by omega) (by omega) ((h.nil hch).nil hc))
    clear hp hX hsz
    go_enter Tryz.func92, Tryz.ntmps92
    go_wp2_with fail
    refine hT.mono ?_
    rintro e w1 ⟨rfl, hc1, he⟩
    clear hT
    have hcw : Ch [b] w w1 := (hch.mono (G := [b]) (by simp)).trans hc1 (by simp)
    cases hd : rNum l with
    | none =>
      rw [hd] at he
      go_wp2_with fail
      go_ret
      exact ⟨by simp [hd, ans], by simpa [hd] using he, hcw⟩
    | some q =>
      obtain ⟨v, l'⟩ := q
      rw [hd] at he
      obtain ⟨hl', hX'⟩ := he
      have hXc := cell_at hX' 0 rfl
      obtain ⟨x, rfl⟩ := rNum_shape hd
      have Hd := Lib.hid hd
      clear hd
      go_wp2_with fail
      go_ret
      exact ⟨by simp [Hd.out, ans], by simpa [Hd.out] using hl', hcw⟩

set_option maxRecDepth 100000 in
theorem cint (p X b g : Nat) (l : List UInt8) (v0 : Value) (w : World) (hp : w.heap[p]? = some (.cells #[.pointer (some ⟨b, 0, none⟩)] 132 (0, 0))) (hX : w.heap[X]? = some (.cells #[v0] 2 (0, 0))) (hXb : X ≠ b) (hXg : X ≠ g) (h : IsRd w b g (some l)) :
    Calls Tryz.prog 96 #[.pointer (some ⟨p, 0, none⟩), .pointer (some ⟨X, 0, none⟩)] w (CPost w b g X 2 (rInt l)) := by
  have hpc := cell_at hp 0 rfl
  go_enter Tryz.func96, Tryz.ntmps96
  go_wp2_with fail
  refine (int_any b g l _ h).mono ?_
  rintro e w1 ⟨hc, he⟩
  cases hd : rInt l with
  | none =>
    rw [hd] at he
    obtain ⟨rfl, l', hl'⟩ := he
    exact ⟨rfl, hc.mono (by simp), rfl, l', hl'⟩
  | some q =>
    obtain ⟨v, l'⟩ := q
    rw [hd] at he
    obtain ⟨rfl, hl'⟩ := he
    have hX1 := hc.at_ hX (by simpa using hXb)
    have hXc := cell_at hX1 0 rfl
    have hXf := free_at hX1 0
    obtain ⟨x, rfl⟩ := rInt_shape hd
    have Hd := Lib.hid hd
    clear hd
    go_wp2_with fail
    go_end0
    have hset : Ch [X] w1 (w1.setCell ⟨X, 0, none⟩ (.int .i64 x)) := (Ch.refl _ _).setCell _ _ (by simp)
    refine ⟨(hc.mono (G := [b, X]) (by simp)).setCell _ _ (by simp), ?_⟩
    rw [Hd.out]
    refine ⟨rfl, hl'.keep hset (by simpa using fun e => hXb e.symm) (by simpa using fun e => hXg e.symm), ?_⟩
    have := heap_setCell_same w1 X 0 _ 2 (.int .i64 x) hX1
    simpa using this

set_option maxRecDepth 100000 in
theorem rint (b g : Nat) (st : Option (List UInt8)) (w : World) (h : IsRd w b g st) :
    Calls Tryz.prog 65 #[.pointer (some ⟨b, 0, none⟩)] w fun e w' => e = .returned (ans (.int .i64 0) (st.bind rInt)) ∧ IsRd w' b g ((st.bind rInt).map (·.2)) ∧ Ch [b] w w' := by
  have hlt := h.lt
  have hgl := h.1
  have hmf : ∀ (fn : Fn) (first cap : Array Value) (w : World), (Instr.makeFunc fn first cap).run Tryz.prog w = .ok (.func fn first cap) w := fun _ _ _ _ => rfl
  have hW : ∀ W, W = (w.alloc (.cells #[.pointer (some ⟨b, 0, none⟩)] 132)).alloc (.cells #[(.int .i64 0)] 2) → Ch [] w W ∧ W.heap[w.heap.size]? = some (.cells #[.pointer (some ⟨b, 0, none⟩)] 132 (0, 0)) ∧ W.heap[w.heap.size + 1]? = some (.cells #[(.int .i64 0)] 2 (0, 0)) ∧ W.heap.size = w.heap.size + 2 := by
    rintro W rfl
    exact ⟨((Ch.refl _ _).alloc _).alloc _, heap_alloc2_old w _ _, heap_alloc2_new w _ _, by simp⟩
  cases st with
  | none =>
    have hf := fun f => try_failed f b g ((w.alloc (.cells #[.pointer (some ⟨b, 0, none⟩)] 132)).alloc (.cells #[(.int .i64 0)] 2)) (h.nil (hW _ rfl).1)
    have hch := (hW _ rfl).1
    clear hW
    go_enter Tryz.func65, Tryz.ntmps65
    go_wp2_with fail
    refine (hf _).mono ?_
    rintro e w1 ⟨rfl, h2⟩
    clear hf
    go_wp2_with fail
    go_ret
    exact ⟨rfl, (h.nil hch).nil h2, (hch.trans' h2).mono (by simp)⟩
  | some l =>
    obtain ⟨hch, hp, hX, hsz⟩ := hW _ rfl
    clear hW
    have hT := try_any 96 #[.pointer (some ⟨w.heap.size, 0, none⟩), .pointer (some ⟨w.heap.size + 1, 0, none⟩)] b g (w.heap.size + 1) 2 (rInt l) l _ (by intro W; kernel_rfl) (by omega) (h.nil hch)
      (fun W hc => cint _ _ b g l _ W (hc.at_ hp (by simp)) (hc.at_ hX (by simp)) (by omega) (by omega) ((h.nil hch).nil hc))
    clear hp hX hsz
    go_enter Tryz.func65, Tryz.ntmps65
    go_wp2_with fail
    refine hT.mono ?_
    rintro e w1 ⟨rfl, hc1, he⟩
    clear hT
    have hcw : Ch [b] w w1 := (hch.mono (G := [b]) (by simp)).trans hc1 (by simp)
    cases hd : rInt l with
    | none =>
      rw [hd] at he
      go_wp2_with fail
      go_ret
      exact ⟨by simp [hd, ans], by simpa [hd] using he, hcw⟩
    | some q =>
      obtain ⟨v, l'⟩ := q
      rw [hd] at he
      obtain ⟨hl', hX'⟩ := he
      have hXc := cell_at hX' 0 rfl
      obtain ⟨x, rfl⟩ := rInt_shape hd
      have Hd := Lib.hid hd
      clear hd
      go_wp2_with fail
      go_ret
      exact ⟨by simp [Hd.out, ans], by simpa [Hd.out] using hl', hcw⟩

set_option maxRecDepth 100000 in
theorem ctext (p X b g : Nat) (l : List UInt8) (v0 : Value) (w : World) (hp : w.heap[p]? = some (.cells #[.pointer (some ⟨b, 0, none⟩)] 132 (0, 0))) (hX : w.heap[X]? = some (.cells #[v0] 9 (0, 0))) (hXb : X ≠ b) (hXg : X ≠ g) (h : IsRd w b g (some l)) :
    Calls Tryz.prog 117 #[.pointer (some ⟨p, 0, none⟩), .pointer (some ⟨X, 0, none⟩)] w (CPost w b g X 9 (rText l)) := by
  have hpc := cell_at hp 0 rfl
  go_enter Tryz.func117, Tryz.ntmps117
  go_wp2_with fail
  refine (text_any b g l _ h).mono ?_
  rintro e w1 ⟨hc, he⟩
  cases hd : rText l with
  | none =>
    rw [hd] at he
    obtain ⟨rfl, l', hl'⟩ := he
    exact ⟨rfl, hc.mono (by simp), rfl, l', hl'⟩
  | some q =>
    obtain ⟨v, l'⟩ := q
    rw [hd] at he
    obtain ⟨rfl, hl'⟩ := he
    have hX1 := hc.at_ hX (by simpa using hXb)
    have hXc := cell_at hX1 0 rfl
    have hXf := free_at hX1 0
    obtain ⟨x, rfl⟩ := rText_shape hd
    have Hd := Lib.hid hd
    clear hd
    go_wp2_with fail
    go_end0
    have hset : Ch [X] w1 (w1.setCell ⟨X, 0, none⟩ (.string x)) := (Ch.refl _ _).setCell _ _ (by simp)
    refine ⟨(hc.mono (G := [b, X]) (by simp)).setCell _ _ (by simp), ?_⟩
    rw [Hd.out]
    refine ⟨rfl, hl'.keep hset (by simpa using fun e => hXb e.symm) (by simpa using fun e => hXg e.symm), ?_⟩
    have := heap_setCell_same w1 X 0 _ 9 (.string x) hX1
    simpa using this

set_option maxRecDepth 100000 in
theorem rtext (b g : Nat) (st : Option (List UInt8)) (w : World) (h : IsRd w b g st) :
    Calls Tryz.prog 82 #[.pointer (some ⟨b, 0, none⟩)] w fun e w' => e = .returned (ans (.string ⟨#[]⟩) (st.bind rText)) ∧ IsRd w' b g ((st.bind rText).map (·.2)) ∧ Ch [b] w w' := by
  have hlt := h.lt
  have hgl := h.1
  have hmf : ∀ (fn : Fn) (first cap : Array Value) (w : World), (Instr.makeFunc fn first cap).run Tryz.prog w = .ok (.func fn first cap) w := fun _ _ _ _ => rfl
  have hW : ∀ W, W = (w.alloc (.cells #[.pointer (some ⟨b, 0, none⟩)] 132)).alloc (.cells #[(.string ⟨#[]⟩)] 9) → Ch [] w W ∧ W.heap[w.heap.size]? = some (.cells #[.pointer (some ⟨b, 0, none⟩)] 132 (0, 0)) ∧ W.heap[w.heap.size + 1]? = some (.cells #[(.string ⟨#[]⟩)] 9 (0, 0)) ∧ W.heap.size = w.heap.size + 2 := by
    rintro W rfl
    exact ⟨((Ch.refl _ _).alloc _).alloc _, heap_alloc2_old w _ _, heap_alloc2_new w _ _, by simp⟩
  cases st with
  | none =>
    have hf := fun f => try_failed f b g ((w.alloc (.cells #[.pointer (some ⟨b, 0, none⟩)] 132)).alloc (.cells #[(.string ⟨#[]⟩)] 9)) (h.nil (hW _ rfl).1)
    have hch := (hW _ rfl).1
    clear hW
    go_enter Tryz.func82, Tryz.ntmps82
    go_wp2_with fail
    refine (hf _).mono ?_
    rintro e w1 ⟨rfl, h2⟩
    clear hf
    go_wp2_with fail
    go_ret
    exact ⟨rfl, (h.nil hch).nil h2, (hch.trans' h2).mono (by simp)⟩
  | some l =>
    obtain ⟨hch, hp, hX, hsz⟩ := hW _ rfl
    clear hW
    have hT := try_any 117 #[.pointer (some ⟨w.heap.size, 0, none⟩), .pointer (some ⟨w.heap.size + 1, 0, none⟩)] b g (w.heap.size + 1) 9 (rText l) l _ (by intro W; kernel_rfl) (by omega) (h.nil hch)
      (fun W hc => ctext _ _ b g l _ W (hc.at_ hp (by simp)) (hc.at_ hX (by simp)) (by omega) (by omega) ((h.nil hch).nil hc))
    clear hp hX hsz
    go_enter Tryz.func82, Tryz.ntmps82
    go_wp2_with fail
    refine hT.mono ?_
    rintro e w1 ⟨rfl, hc1, he⟩
    clear hT
    have hcw : Ch [b] w w1 := (hch.mono (G := [b]) (by simp)).trans hc1 (by simp)
    cases hd : rText l with
    | none =>
      rw [hd] at he
      go_wp2_with fail
      go_ret
      exact ⟨by simp [hd, ans], by simpa [hd] using he, hcw⟩
    | some q =>
      obtain ⟨v, l'⟩ := q
      rw [hd] at he
      obtain ⟨hl', hX'⟩ := he
      have hXc := cell_at hX' 0 rfl
      obtain ⟨x, rfl⟩ := rText_shape hd
      have Hd := Lib.hid hd
      clear hd
      go_wp2_with fail
      go_ret
      exact ⟨by simp [Hd.out, ans], by simpa [Hd.out] using hl', hcw⟩

set_option maxRecDepth 100000 in
theorem cbool (p X b g : Nat) (l : List UInt8) (v0 : Value) (w : World) (hp : w.heap[p]? = some (.cells #[.pointer (some ⟨b, 0, none⟩)] 132 (0, 0))) (hX : w.heap[X]? = some (.cells #[v0] 4 (0, 0))) (hXb : X ≠ b) (hXg : X ≠ g) (h : IsRd w b g (some l)) :
    Calls Tryz.prog 115 #[.pointer (some ⟨p, 0, none⟩), .pointer (some ⟨X, 0, none⟩)] w (CPost w b g X 4 (rBool l)) := by
  have hpc := cell_at hp 0 rfl
  go_enter Tryz.func115, Tryz.ntmps115
  go_wp2_with fail
  refine (bool_any b g l _ h).mono ?_
  rintro e w1 ⟨hc, he⟩
  cases hd : rBool l with
  | none =>
    rw [hd] at he
    obtain ⟨rfl, l', hl'⟩ := he
    exact ⟨rfl, hc.mono (by simp), rfl, l', hl'⟩
  | some q =>
    obtain ⟨v, l'⟩ := q
    rw [hd] at he
    obtain ⟨rfl, hl'⟩ := he
    have hX1 := hc.at_ hX (by simpa using hXb)
    have hXc := cell_at hX1 0 rfl
    have hXf := free_at hX1 0
    obtain ⟨x, rfl⟩ := rBool_shape hd
    have Hd := Lib.hid hd
    clear hd
    go_wp2_with fail
    go_end0
    have hset : Ch [X] w1 (w1.setCell ⟨X, 0, none⟩ (.bool x)) := (Ch.refl _ _).setCell _ _ (by simp)
    refine ⟨(hc.mono (G := [b, X]) (by simp)).setCell _ _ (by simp), ?_⟩
    rw [Hd.out]
    refine ⟨rfl, hl'.keep hset (by simpa using fun e => hXb e.symm) (by simpa using fun e => hXg e.symm), ?_⟩
    have := heap_setCell_same w1 X 0 _ 4 (.bool x) hX1
    simpa using this

set_option maxRecDepth 100000 in
theorem rbool (b g : Nat) (st : Option (List UInt8)) (w : World) (h : IsRd w b g st) :
    Calls Tryz.prog 81 #[.pointer (some ⟨b, 0, none⟩)] w fun e w' => e = .returned (ans (.bool false) (st.bind rBool)) ∧ IsRd w' b g ((st.bind rBool).map (·.2)) ∧ Ch [b] w w' := by
  have hlt := h.lt
  have hgl := h.1
  have hmf : ∀ (fn : Fn) (first cap : Array Value) (w : World), (Instr.makeFunc fn first cap).run Tryz.prog w = .ok (.func fn first cap) w := fun _ _ _ _ => rfl
  have hW : ∀ W, W = (w.alloc (.cells #[.pointer (some ⟨b, 0, none⟩)] 132)).alloc (.cells #[(.bool false)] 4) → Ch [] w W ∧ W.heap[w.heap.size]? = some (.cells #[.pointer (some ⟨b, 0, none⟩)] 132 (0, 0)) ∧ W.heap[w.heap.size + 1]? = some (.cells #[(.bool false)] 4 (0, 0)) ∧ W.heap.size = w.heap.size + 2 := by
    rintro W rfl
    exact ⟨((Ch.refl _ _).alloc _).alloc _, heap_alloc2_old w _ _, heap_alloc2_new w _ _, by simp⟩
  cases st with
  | none =>
    have hf := fun f => try_failed f b g ((w.alloc (.cells #[.pointer (some ⟨b, 0, none⟩)] 132)).alloc (.cells #[(.bool false)] 4)) (h.nil (hW _ rfl).1)
    have hch := (hW _ rfl).1
    clear hW
    go_enter Tryz.func81, Tryz.ntmps81
    go_wp2_with fail
    refine (hf _).mono ?_
    rintro e w1 ⟨rfl, h2⟩
    clear hf
    go_wp2_with fail
    go_ret
    exact ⟨rfl, (h.nil hch).nil h2, (hch.trans' h2).mono (by simp)⟩
  | some l =>
    obtain ⟨hch, hp, hX, hsz⟩ := hW _ rfl
    clear hW
    have hT := try_any 115 #[.pointer (some ⟨w.heap.size, 0, none⟩), .pointer (some ⟨w.heap.size + 1, 0, none⟩)] b g (w.heap.size + 1) 4 (rBool l) l _ (by intro W; kernel_rfl) (by omega) (h.nil hch)
      (fun W hc => cbool _ _ b g l _ W (hc.at_ hp (by simp)) (hc.at_ hX (by simp)) (by omega) (by omega) ((h.nil hch).nil hc))
    clear hp hX hsz
    go_enter Tryz.func81, Tryz.ntmps81
    go_wp2_with fail
    refine hT.mono ?_
    rintro e w1 ⟨rfl, hc1, he⟩
    clear hT
    have hcw : Ch [b] w w1 := (hch.mono (G := [b]) (by simp)).trans hc1 (by simp)
    cases hd : rBool l with
    | none =>
      rw [hd] at he
      go_wp2_with fail
      go_ret
      exact ⟨by simp [hd, ans], by simpa [hd] using he, hcw⟩
    | some q =>
      obtain ⟨v, l'⟩ := q
      rw [hd] at he
      obtain ⟨hl', hX'⟩ := he
      have hXc := cell_at hX' 0 rfl
      obtain ⟨x, rfl⟩ := rBool_shape hd
      have Hd := Lib.hid hd
      clear hd
      go_wp2_with fail
      go_ret
      exact ⟨by simp [Hd.out, ans], by simpa [Hd.out] using hl', hcw⟩

/-- What Done answers. -/
def doneV (st : Option (List UInt8)) : Int := match st with | some [] => 0 | _ => 20
theorem doneV_not {l : List UInt8} (h : l ≠ []) : doneV (some l) = 20 := by
  cases l with
  | nil => exact absurd rfl h
  | cons a r => rfl

set_option maxRecDepth 100000 in
theorem rdone (b g : Nat) (st : Option (List UInt8)) (w : World) (h : IsRd w b g st) :
    Calls Tryz.prog 66 #[.pointer (some ⟨b, 0, none⟩)] w fun e w' => e = .returned (.int .i64 (doneV st)) ∧ w = w' := by
  obtain ⟨_, A, n, c, f, hb, hA, hst⟩ := h
  have hb0 := cell_at hb 0 rfl
  have hb1 := cell_at hb 1 rfl
  cases st with
  | none =>
    obtain rfl : f = true := hst
    go_enter Tryz.func66, Tryz.ntmps66
    go_wp2
    go_ret
    exact ⟨rfl, rfl⟩
  | some l =>
    obtain ⟨rfl, hrd, _⟩ := hst
    have hl := hrd.length
    by_cases hn : n = 0
    · subst hn
      obtain rfl : l = [] := List.eq_nil_of_length_eq_zero hl
      go_enter Tryz.func66, Tryz.ntmps66
      go_wp2
      go_ret
      exact ⟨rfl, rfl⟩
    · have hn' : (0 : Int) < (n : Int) := by omega
      have hne : doneV (some l) = 20 := doneV_not (by rintro rfl; simp at hl; omega)
      have Hne := Lib.hid hne
      clear hne hl
      go_enter Tryz.func66, Tryz.ntmps66
      go_wp2
      go_ret
      rw [Hne.out]
      exact ⟨rfl, rfl⟩

end Go.Proofs.YtbkncfedahifkaaGreat

/-
  The statements of layer 2: known, zig.
-/
set_option linter.unusedVariables false
namespace Go.Proofs.YtbkncfedahifkaaGreat
open Go.RowKit

theorem rd_row (W : World) (cs : Array Value) (t : TypeId) (n : Nat) (hn : n ≤ maxLen) (hs : cs.size = n) : Rd 1 (W.alloc (.cells cs t)) (some ⟨W.heap.size, 0, none⟩) n n cs.toList :=
  own_rd (World.ownsRow_lit (base := 0) W cs n (Nat.zero_le _) hn (by simpa using hs))
theorem Rd.nil {sz : Nat} {w w' : World} {A : Option Addr} {n c : Nat} {xs : List Value} (h : Rd sz w A n c xs) (hc : Ch [] w w') : Rd sz w' A n c xs := h.keep hc (by simp)

theorem new_wr (w : World) : Calls Tryz.prog 60 #[] w fun e w' => ∃ b, e = .returned (.pointer (some ⟨b, 0, none⟩)) ∧ IsWr w' b none [] ∧ w.heap.size ≤ b ∧ Ch [] w w' :=
  (new_writer w).mono fun e w' ⟨he, hw⟩ => by
    subst hw
    exact ⟨w.heap.size, he, ⟨_, heap_alloc_new w _, World.ownsRow_nil _ _ _ _, rfl⟩, Nat.le_refl _, (Ch.refl _ _).alloc _⟩

/-- A writer that a function of one's own made: where it lies. -/
theorem WSt.own {w w0 w1 : World} {b : Nat} {o : Option Nat} {l : List UInt8} (h : WSt w0 b o l w1) (hb : w.heap.size ≤ b) (ho : ∀ k, o = some k → w.heap.size ≤ k) (hc : Ch [] w w0) :
    ∃ o', IsWr w1 b o' l ∧ (∀ k, o' = some k → w.heap.size ≤ k) ∧ Ch [] w w1 := by
  obtain ⟨o', h1, h2, h3⟩ := h
  have hs := hc.size
  refine ⟨o', h1, ?_, hc.trans h3 ?_⟩
  · intro k hk
    rcases h2 with rfl | ⟨k', h2, hk'⟩
    · exact ho k hk
    · rw [hk] at h2; injection h2 with h2; omega
  · intro x hx
    simp only [List.mem_cons, Option.mem_toList] at hx
    rcases hx with rfl | hx
    · exact .inr hb
    · exact .inr (ho x hx)


end Go.Proofs.YtbkncfedahifkaaGreat
