/-
  Package wal: put, get; numbers as bytes, the greatest first.
-/
import Derived.Test.YtbkncfedahifkaaLive
set_option linter.unusedVariables false
set_option linter.unusedSimpArgs false
namespace Go.Proofs.Ytbkncfedahifkaa
open Go.RowKit Go.Maps

/-- A number in k bytes. -/
def beN (k v : Nat) : List UInt8 := (List.range k).map fun i => UInt8.ofNat (v / 2 ^ (8 * (k - 1 - i)))
theorem beN_length (k v : Nat) : (beN k v).length = k := by simp [beN]
theorem beN_get (k v i : Nat) (hi : i < k) : (beN k v)[i]? = some (UInt8.ofNat (v / 2 ^ (8 * (k - 1 - i)))) := by simp [beN, hi]
/-- The number of bytes. -/
def deN (l : List UInt8) : Nat := l.foldl (fun n x => n * 256 + x.toNat) 0
theorem deN_snoc (l : List UInt8) (x : UInt8) : deN (l ++ [x]) = deN l * 256 + x.toNat := by simp [deN]
theorem deN_go : ∀ (l : List UInt8) (a : Nat), l.foldl (fun n x => n * 256 + x.toNat) a < (a + 1) * 256 ^ l.length
  | [], a => by simp
  | x :: l, a => by
    rw [List.foldl_cons, List.length_cons, Nat.pow_succ]
    have h := deN_go l (a * 256 + x.toNat)
    have hx := x.toNat_lt
    have h2 : (a * 256 + x.toNat + 1) * 256 ^ l.length ≤ ((a + 1) * 256) * 256 ^ l.length := Nat.mul_le_mul_right _ (by omega)
    have h3 : ((a + 1) * 256) * 256 ^ l.length = (a + 1) * (256 ^ l.length * 256) := by rw [Nat.mul_assoc, Nat.mul_comm 256]
    omega
theorem deN_lt (l : List UInt8) : deN l < 256 ^ l.length := by
  have := deN_go l 0
  simpa [deN] using this
theorem beN_succ (k v : Nat) : beN (k + 1) v = beN k (v / 256) ++ [UInt8.ofNat v] := by
  apply List.ext_getElem?
  intro i
  rcases Nat.lt_trichotomy i k with h | h | h
  · rw [beN_get _ _ _ (by omega), List.getElem?_append_left (by rw [beN_length]; exact h), beN_get _ _ _ h]
    congr 2
    rw [Nat.div_div_eq_div_mul]
    congr 1
    rw [show (256 : Nat) = 2 ^ 8 from rfl, ← Nat.pow_add]
    congr 1
    omega
  · subst h
    rw [beN_get _ _ _ (by omega), List.getElem?_append_right (by rw [beN_length]; exact Nat.le_refl _), beN_length]
    simp
  · rw [List.getElem?_eq_none (by rw [beN_length]; omega), List.getElem?_eq_none (by simp [beN_length]; omega)]
theorem deN_beN : ∀ (k v : Nat), v < 256 ^ k → deN (beN k v) = v
  | 0, v, h => by simp at h; subst h; rfl
  | k + 1, v, h => by
    rw [beN_succ, deN_snoc, deN_beN k (v / 256) (by rw [Nat.pow_succ] at h; omega), UInt8.toNat_ofNat']
    omega

/-- M laid over L from o on. -/
def splice {α : Type} (L : List α) (o : Nat) (M : List α) : List α := L.take o ++ M ++ L.drop (o + M.length)
theorem splice_length {α : Type} (L : List α) (o : Nat) (M : List α) (h : o + M.length ≤ L.length) : (splice L o M).length = L.length := by
  simp [splice]; omega
theorem splice_nil {α : Type} (L : List α) (o : Nat) (h : o ≤ L.length) : splice L o [] = L := by simp [splice]
theorem splice_snoc {α : Type} (L : List α) (o : Nat) (M : List α) (x : α) (h : o + M.length < L.length) : (splice L o M).set (o + M.length) x = splice L o (M ++ [x]) := by
  unfold splice
  have hl : (L.take o ++ M).length = o + M.length := by simp; omega
  rw [List.set_append_right _ _ (by rw [hl]; exact Nat.le_refl _), hl, Nat.sub_self]
  obtain ⟨y, hy⟩ : ∃ y, L.drop (o + M.length) = y :: L.drop (o + M.length + 1) := ⟨L[o + M.length], List.drop_eq_getElem_cons h⟩
  rw [hy, List.set_cons_zero]
  simp [List.append_assoc, Nat.add_assoc]
theorem splice_map {α β : Type} (f : α → β) (L : List α) (o : Nat) (M : List α) : (splice L o M).map f = splice (L.map f) o (M.map f) := by simp [splice]
theorem splice_take {α : Type} (L : List α) (o : Nat) (M : List α) (n : Nat) (h : o + M.length ≤ n) (hn : n ≤ L.length) : (splice L o M).take n = splice (L.take n) o M := by
  unfold splice
  rw [List.take_append, List.take_of_length_le (by simp; omega), List.take_take, Nat.min_eq_left (by omega), List.drop_take, List.length_append, List.length_take, Nat.min_eq_left (by omega)]
theorem splice_get {α : Type} (L : List α) (o : Nat) (M : List α) (i : Nat) (h : o + M.length ≤ L.length) : (splice L o M)[i]? = if o ≤ i ∧ i < o + M.length then M[i - o]? else L[i]? := by
  unfold splice
  by_cases h1 : i < o
  · rw [if_neg (by omega), List.append_assoc, List.getElem?_append_left (by simp; omega), List.getElem?_take, if_pos h1]
  · by_cases h2 : i < o + M.length
    · rw [if_pos (by omega), List.getElem?_append_left (by simp; omega), List.getElem?_append_right (by simp; omega)]
      congr 1
      simp
      omega
    · rw [if_neg (by omega), List.getElem?_append_right (by simp; omega), List.getElem?_drop]
      congr 1
      simp
      omega

theorem byte_wrap (v j : Nat) : IntKind.u8.wrap ((v : Int) / 2 ^ j) = ((UInt8.ofNat (v / 2 ^ j)).toNat : Int) := by
  rw [IntKind.wrap_u8, UInt8.toNat_ofNat']
  have : (v : Int) / 2 ^ j = ((v / 2 ^ j : Nat) : Int) := by rw [Int.natCast_ediv, Int.natCast_pow]; rfl
  rw [this]
  omega

set_option maxRecDepth 100000 in
set_option maxHeartbeats 1000000 in
theorem put_any (g o k c v : Nat) (t : TypeId) (cs : List Value) (w : World) (hb : w.heap[g]? = some (.cells cs.toArray t (0, 0))) (ho : o + k ≤ cs.length) (hk : k ≤ 8) (hv : v < 18446744073709551616) :
    Calls Try.prog 116 #[.slice (some ⟨g, o, none⟩) k c, .int .u64 (v : Int)] w fun e w' => e = .returned (.tuple #[]) ∧ w'.heap[g]? = some (.cells (splice cs o (bvs (beN k v))).toArray t (0, 0)) ∧ Ch [g] w w' := by
  go_enter Try.func116, Try.ntmps116
  go_wp2_with fail
  go_loopw [7] (fun i wr => ∃ j : Nat, j ≤ k ∧ i = .int .i64 j ∧ wr.heap[g]? = some (.cells (splice cs o ((bvs (beN k v)).take j)).toArray t (0, 0)) ∧ Ch [g] w wr) (fun i _ => k - (intOf i).toNat)
  case atStart => exact ⟨0, by omega, rfl, by rw [List.take_zero, splice_nil _ _ (by omega)]; exact hb, Ch.refl _ _⟩
  case round =>
    obtain ⟨j, hj, rfl, hbj, hch⟩ := hrel
    by_cases hlt : j < k
    · have hbl : (bvs (beN k v)).length = k := by rw [bvs_length, beN_length]
      have htl : ((bvs (beN k v)).take j).length = j := by rw [List.length_take, hbl]; omega
      have hsl : (splice cs o ((bvs (beN k v)).take j)).length = cs.length := splice_length _ _ _ (by rw [htl]; omega)
      obtain ⟨old, hold⟩ : ∃ old, (splice cs o ((bvs (beN k v)).take j))[o + j]? = some old := ⟨_, List.getElem?_eq_getElem (by rw [hsl]; omega)⟩
      have hcell := cell_at hbj (o + j) (by simpa using hold)
      have hfree := free_at hbj (o + j)
      have hmul : IntKind.i64.wrap (8 * ((k : Int) - 1 - (j : Int))) = ((8 * (k - 1 - j) : Nat) : Int) := by rw [IntKind.wrap_i64]; omega
      have hw := byte_wrap v (8 * (k - 1 - j))
      have hb2 := heap_setCell_same wr g (o + j) _ t (.int .u8 ((UInt8.ofNat (v / 2 ^ (8 * (k - 1 - j)))).toNat : Int)) hbj
      have hstep : (splice cs o ((bvs (beN k v)).take j)).toArray.setIfInBounds (o + j) (.int .u8 ((UInt8.ofNat (v / 2 ^ (8 * (k - 1 - j)))).toNat : Int)) = (splice cs o ((bvs (beN k v)).take (j + 1))).toArray := by
        rw [List.setIfInBounds_toArray]
        congr 1
        have e := splice_snoc cs o ((bvs (beN k v)).take j) (bv (UInt8.ofNat (v / 2 ^ (8 * (k - 1 - j))))) (by rw [htl]; omega)
        rw [htl] at e
        rw [show (bvs (beN k v)).take (j + 1) = (bvs (beN k v)).take j ++ [bv (UInt8.ofNat (v / 2 ^ (8 * (k - 1 - j))))] from by
          rw [List.take_add_one, bvs_get, beN_get _ _ _ hlt]
          rfl]
        exact e
      rw [hstep] at hb2
      have hch2 := hch.setCell ⟨g, o + j, none⟩ (.int .u8 ((UInt8.ofNat (v / 2 ^ (8 * (k - 1 - j)))).toNat : Int)) (by simp)
      rw [IntKind.wrap_u8] at hw
      have HW := Lib.hid hw
      clear hstep hsl htl hbl hold hbj hw
      go_wp2_with fail
      rw [HW.out]
      refine ⟨⟨j + 1, by omega, by go_num, hb2, hch2⟩, ?_⟩
      simp [intOf]
      omega
    · obtain rfl : j = k := by omega
      clear hlt hj
      go_wp2_with fail
      go_end0
      exact ⟨rfl, by rw [List.take_of_length_le (by rw [bvs_length, beN_length]; exact Nat.le_refl _)] at hbj; exact hbj, hch⟩

/-- On a row of one's own. -/
theorem put_row (g o k c cap n v base : Nat) (L : List UInt8) (w : World) (hb : w.ownsRow base 5 1 (.slice (some ⟨g, 0, none⟩) n cap) n (bvs L)) (ho : o + k ≤ n) (hk : k ≤ 8) (hv : v < 18446744073709551616) :
    Calls Try.prog 116 #[.slice (some ⟨g, o, none⟩) k c, .int .u64 (v : Int)] w fun e w' => e = .returned (.tuple #[]) ∧ w'.ownsRow base 5 1 (.slice (some ⟨g, 0, none⟩) n cap) n (bvs (splice L o (beN k v))) ∧ Ch [g] w w' := by
  have hl0 := hb.1
  rcases hb.2 with ⟨e, _⟩ | ⟨g', cap', cur, e, h1, h2, h3, h4, h5, h6⟩
  · cases e
  · simp only [Value.slice.injEq, Option.some.injEq, Addr.mk.injEq, and_true, true_and] at e
    obtain ⟨rfl, rfl⟩ := e
    have hsz : n ≤ cur.toList.length := by rw [Array.length_toList]; omega
    refine (put_any g o k c v 5 cur.toList w h2 (by omega) hk hv).mono ?_
    rintro e w' ⟨rfl, h7, h8⟩
    refine ⟨rfl, ⟨?_, .inr ⟨g, cap, _, rfl, h1, h7, h3, h4, ?_, ?_⟩⟩, h8⟩
    · rw [bvs_length, splice_length _ _ _ (by rw [beN_length]; simp [bvs] at hl0; omega)]
      simpa [bvs] using hl0
    · rw [List.size_toArray, splice_length _ _ _ (by rw [bvs_length, beN_length]; omega), Array.length_toList]
      exact h5
    · rw [Nat.mul_one] at h6 ⊢
      show (splice cur.toList o (bvs (beN k v))).take n = _
      rw [splice_take _ _ _ _ (by rw [bvs_length, beN_length]; omega) hsz, h6]
      simp only [bvs, splice_map]

end Go.Proofs.Ytbkncfedahifkaa
