/-
  Texts that stand in one: WPut, WGet, WLog, WFrame, WLay, WCommit, WSector, WOpenSpec.
-/
import Derived.Test.YtbkncfedahifkaaGreatPDisk
import Derived.Deep.QuietTactic
import Derived.BigQuiet
import Derived.Lib.BufferWrite
/-
  Package wal: put, get; numbers as bytes, the greatest first.
-/
set_option linter.unusedVariables false
set_option linter.unusedSimpArgs false
namespace Go.Proofs.YtbkncfedahifkaaGreat
open Go.RowKit Go.Maps

/-- A number in k bytes. -/
def beN (k v : Nat) : List UInt8 := (List.range k).map fun i => UInt8.ofNat (v / 2 ^ (8 * (k - 1 - i)))
theorem beN_length (k v : Nat) : (beN k v).length = k := by simp [beN]
theorem beN_get (k v i : Nat) (hi : i < k) : (beN k v)[i]? = some (UInt8.ofNat (v / 2 ^ (8 * (k - 1 - i)))) := by simp [beN, hi]
/-- The number of bytes. -/
def deN (l : List UInt8) : Nat := l.foldl (fun n x => n * 256 + x.toNat) 0
theorem deN_snoc (l : List UInt8) (x : UInt8) : deN (l ++ [x]) = deN l * 256 + x.toNat := by simp [deN]
theorem deN_go : ∀ (l : List UInt8) (a : Nat), l.foldl (fun n x => n * 256 + x.toNat) a < (a + 1) * 256 ^ l.length
  | [], a => by simp
  | x :: l, a => by
    rw [List.foldl_cons, List.length_cons, Nat.pow_succ]
    have h := deN_go l (a * 256 + x.toNat)
    have hx := x.toNat_lt
    have h2 : (a * 256 + x.toNat + 1) * 256 ^ l.length ≤ ((a + 1) * 256) * 256 ^ l.length := Nat.mul_le_mul_right _ (by omega)
    have h3 : ((a + 1) * 256) * 256 ^ l.length = (a + 1) * (256 ^ l.length * 256) := by rw [Nat.mul_assoc, Nat.mul_comm 256]
    omega
theorem deN_lt (l : List UInt8) : deN l < 256 ^ l.length := by
  have := deN_go l 0
  simpa [deN] using this
theorem beN_succ (k v : Nat) : beN (k + 1) v = beN k (v / 256) ++ [UInt8.ofNat v] := by
  apply List.ext_getElem?
  intro i
  rcases Nat.lt_trichotomy i k with h | h | h
  · rw [beN_get _ _ _ (by omega), List.getElem?_append_left (by rw [beN_length]; exact h), beN_get _ _ _ h]
    congr 2
    rw [Nat.div_div_eq_div_mul]
    congr 1
    rw [show (256 : Nat) = 2 ^ 8 from rfl, ← Nat.pow_add]
    congr 1
    omega
  · subst h
    rw [beN_get _ _ _ (by omega), List.getElem?_append_right (by rw [beN_length]; exact Nat.le_refl _), beN_length]
    simp
  · rw [List.getElem?_eq_none (by rw [beN_length]; omega), List.getElem?_eq_none (by simp [beN_length]; omega)]
theorem deN_beN : ∀ (k v : Nat), v < 256 ^ k → deN (beN k v) = v
  | 0, v, h => by simp at h; subst h; rfl
  | k + 1, v, h => by
    rw [beN_succ, deN_snoc, deN_beN k (v / 256) (by rw [Nat.pow_succ] at h; omega), UInt8.toNat_ofNat']
    omega

/-- M laid over L from o on. -/
def splice {α : Type} (L : List α) (o : Nat) (M : List α) : List α := L.take o ++ M ++ L.drop (o + M.length)
theorem splice_length {α : Type} (L : List α) (o : Nat) (M : List α) (h : o + M.length ≤ L.length) : (splice L o M).length = L.length := by
  simp [splice]; omega
theorem splice_nil {α : Type} (L : List α) (o : Nat) (h : o ≤ L.length) : splice L o [] = L := by simp [splice]
theorem splice_snoc {α : Type} (L : List α) (o : Nat) (M : List α) (x : α) (h : o + M.length < L.length) : (splice L o M).set (o + M.length) x = splice L o (M ++ [x]) := by
  unfold splice
  have hl : (L.take o ++ M).length = o + M.length := by simp; omega
  rw [List.set_append_right _ _ (by rw [hl]; exact Nat.le_refl _), hl, Nat.sub_self]
  obtain ⟨y, hy⟩ : ∃ y, L.drop (o + M.length) = y :: L.drop (o + M.length + 1) := ⟨L[o + M.length], List.drop_eq_getElem_cons h⟩
  rw [hy, List.set_cons_zero]
  simp [List.append_assoc, Nat.add_assoc]
theorem splice_map {α β : Type} (f : α → β) (L : List α) (o : Nat) (M : List α) : (splice L o M).map f = splice (L.map f) o (M.map f) := by simp [splice]
theorem splice_take {α : Type} (L : List α) (o : Nat) (M : List α) (n : Nat) (h : o + M.length ≤ n) (hn : n ≤ L.length) : (splice L o M).take n = splice (L.take n) o M := by
  unfold splice
  rw [List.take_append, List.take_of_length_le (by simp; omega), List.take_take, Nat.min_eq_left (by omega), List.drop_take, List.length_append, List.length_take, Nat.min_eq_left (by omega)]
theorem splice_get {α : Type} (L : List α) (o : Nat) (M : List α) (i : Nat) (h : o + M.length ≤ L.length) : (splice L o M)[i]? = if o ≤ i ∧ i < o + M.length then M[i - o]? else L[i]? := by
  unfold splice
  by_cases h1 : i < o
  · rw [if_neg (by omega), List.append_assoc, List.getElem?_append_left (by simp; omega), List.getElem?_take, if_pos h1]
  · by_cases h2 : i < o + M.length
    · rw [if_pos (by omega), List.getElem?_append_left (by simp; omega), List.getElem?_append_right (by simp; omega)]
      congr 1
      simp
      omega
    · rw [if_neg (by omega), List.getElem?_append_right (by simp; omega), List.getElem?_drop]
      congr 1
      simp
      omega

theorem byte_wrap (v j : Nat) : IntKind.u8.wrap ((v : Int) / 2 ^ j) = ((UInt8.ofNat (v / 2 ^ j)).toNat : Int) := by
  rw [IntKind.wrap_u8, UInt8.toNat_ofNat']
  have : (v : Int) / 2 ^ j = ((v / 2 ^ j : Nat) : Int) := by rw [Int.natCast_ediv, Int.natCast_pow]; rfl
  rw [this]
  omega

set_option maxRecDepth 100000 in
set_option maxHeartbeats 1000000 in
theorem put_any (g o k c v : Nat) (t : TypeId) (cs : List Value) (w : World) (hb : w.heap[g]? = some (.cells cs.toArray t (0, 0))) (ho : o + k ≤ cs.length) (hk : k ≤ 8) (hv : v < 18446744073709551616) :
    Calls Tryz.prog 146 #[.slice (some ⟨g, o, none⟩) k c, .int .u64 (v : Int)] w fun e w' => e = .returned (.tuple #[]) ∧ w'.heap[g]? = some (.cells (splice cs o (bvs (beN k v))).toArray t (0, 0)) ∧ Ch [g] w w' := by
  go_enter Tryz.func146, Tryz.ntmps146
  go_wp2_with fail
  go_loopw [7] (fun i wr => ∃ j : Nat, j ≤ k ∧ i = .int .i64 j ∧ wr.heap[g]? = some (.cells (splice cs o ((bvs (beN k v)).take j)).toArray t (0, 0)) ∧ Ch [g] w wr) (fun i _ => k - (intOf i).toNat)
  case atStart => exact ⟨0, by omega, rfl, by rw [List.take_zero, splice_nil _ _ (by omega)]; exact hb, Ch.refl _ _⟩
  case round =>
    obtain ⟨j, hj, rfl, hbj, hch⟩ := hrel
    by_cases hlt : j < k
    · have hbl : (bvs (beN k v)).length = k := by rw [bvs_length, beN_length]
      have htl : ((bvs (beN k v)).take j).length = j := by rw [List.length_take, hbl]; omega
      have hsl : (splice cs o ((bvs (beN k v)).take j)).length = cs.length := splice_length _ _ _ (by rw [htl]; omega)
      obtain ⟨old, hold⟩ : ∃ old, (splice cs o ((bvs (beN k v)).take j))[o + j]? = some old := ⟨_, List.getElem?_eq_getElem (by rw [hsl]; omega)⟩
      have hcell := cell_at hbj (o + j) (by simpa using hold)
      have hfree := free_at hbj (o + j)
      have hmul : IntKind.i64.wrap (8 * ((k : Int) - 1 - (j : Int))) = ((8 * (k - 1 - j) : Nat) : Int) := by rw [IntKind.wrap_i64]; omega
      have hw := byte_wrap v (8 * (k - 1 - j))
      have hb2 := heap_setCell_same wr g (o + j) _ t (.int .u8 ((UInt8.ofNat (v / 2 ^ (8 * (k - 1 - j)))).toNat : Int)) hbj
      have hstep : (splice cs o ((bvs (beN k v)).take j)).toArray.setIfInBounds (o + j) (.int .u8 ((UInt8.ofNat (v / 2 ^ (8 * (k - 1 - j)))).toNat : Int)) = (splice cs o ((bvs (beN k v)).take (j + 1))).toArray := by
        rw [List.setIfInBounds_toArray]
        congr 1
        have e := splice_snoc cs o ((bvs (beN k v)).take j) (bv (UInt8.ofNat (v / 2 ^ (8 * (k - 1 - j))))) (by rw [htl]; omega)
        rw [htl] at e
        rw [show (bvs (beN k v)).take (j + 1) = (bvs (beN k v)).take j ++ [bv (UInt8.ofNat (v / 2 ^ (8 * (k - 1 - j))))] from by
          rw [List.take_add_one, bvs_get, beN_get _ _ _ hlt]
          rfl]
        exact e
      rw [hstep] at hb2
      have hch2 := hch.setCell ⟨g, o + j, none⟩ (.int .u8 ((UInt8.ofNat (v / 2 ^ (8 * (k - 1 - j)))).toNat : Int)) (by simp)
      rw [IntKind.wrap_u8] at hw
      have HW := Lib.hid hw
      clear hstep hsl htl hbl hold hbj hw
      go_wp2_with fail
      rw [HW.out]
      refine ⟨⟨j + 1, by omega, by go_num, hb2, hch2⟩, ?_⟩
      simp [intOf]
      omega
    · obtain rfl : j = k := by omega
      clear hlt hj
      go_wp2_with fail
      go_end0
      exact ⟨rfl, by rw [List.take_of_length_le (by rw [bvs_length, beN_length]; exact Nat.le_refl _)] at hbj; exact hbj, hch⟩

/-- On a row of one's own. -/
theorem put_row (g o k c cap n v base : Nat) (L : List UInt8) (w : World) (hb : w.ownsRow base 5 1 (.slice (some ⟨g, 0, none⟩) n cap) n (bvs L)) (ho : o + k ≤ n) (hk : k ≤ 8) (hv : v < 18446744073709551616) :
    Calls Tryz.prog 146 #[.slice (some ⟨g, o, none⟩) k c, .int .u64 (v : Int)] w fun e w' => e = .returned (.tuple #[]) ∧ w'.ownsRow base 5 1 (.slice (some ⟨g, 0, none⟩) n cap) n (bvs (splice L o (beN k v))) ∧ Ch [g] w w' := by
  have hl0 := hb.1
  rcases hb.2 with ⟨e, _⟩ | ⟨g', cap', cur, e, h1, h2, h3, h4, h5, h6⟩
  · cases e
  · simp only [Value.slice.injEq, Option.some.injEq, Addr.mk.injEq, and_true, true_and] at e
    obtain ⟨rfl, rfl⟩ := e
    have hsz : n ≤ cur.toList.length := by rw [Array.length_toList]; omega
    refine (put_any g o k c v 5 cur.toList w h2 (by omega) hk hv).mono ?_
    rintro e w' ⟨rfl, h7, h8⟩
    refine ⟨rfl, ⟨?_, .inr ⟨g, cap, _, rfl, h1, h7, h3, h4, ?_, ?_⟩⟩, h8⟩
    · rw [bvs_length, splice_length _ _ _ (by rw [beN_length]; simp [bvs] at hl0; omega)]
      simpa [bvs] using hl0
    · rw [List.size_toArray, splice_length _ _ _ (by rw [bvs_length, beN_length]; omega), Array.length_toList]
      exact h5
    · rw [Nat.mul_one] at h6 ⊢
      show (splice cur.toList o (bvs (beN k v))).take n = _
      rw [splice_take _ _ _ _ (by rw [bvs_length, beN_length]; omega) hsz, h6]
      simp only [bvs, splice_map]

end Go.Proofs.YtbkncfedahifkaaGreat

/-
  Package wal: get.
-/
set_option linter.unusedVariables false
set_option linter.unusedSimpArgs false
namespace Go.Proofs.YtbkncfedahifkaaGreat
open Go.RowKit Go.Maps

/-- A byte of a slice that is read. -/
theorem RdB.cell_at0 {w : World} {A : Option Addr} {n c : Nat} {l : List UInt8} (h : RdB w A n c l) (i : Nat) (hi : i < l.length) : ∃ b o, A = some ⟨b, o, none⟩ ∧ w.cell? ⟨b, o + i, none⟩ = some (.int .u8 (l[i].toNat : Int)) := by
  obtain ⟨b, o, e, hc⟩ := h.cell (by rw [← h.length]; omega)
  exact ⟨b, o, e, hc i hi⟩
theorem get_step (m : Nat) (x : UInt8) (hm : m * 256 + x.toNat < 18446744073709551616) : bits BinOp.or IntKind.u64 ((m : Int) * 256) (x.toNat : Int) = ((m * 256 + x.toNat : Nat) : Int) := by
  have hx : x.toNat < 2 ^ 8 := x.toNat_lt
  have e : (m : Int) * 256 = ((m * 256 : Nat) : Int) := by omega
  have a1 : m * 256 < 18446744073709551616 := Nat.lt_of_le_of_lt (Nat.le_add_right _ _) hm
  have a2 : x.toNat < 18446744073709551616 := Nat.lt_of_le_of_lt (Nat.le_add_left _ _) hm
  have h := Nat.shiftLeft_add_eq_or_of_lt (a := m) hx
  have h8 : (2 : Nat) ^ 8 = 256 := by decide
  rw [Nat.shiftLeft_eq, h8] at h
  rw [e, bits_or_u64_nat _ _ a1 a2, h]

theorem deN_take_lt (l : List UInt8) (hl : l.length ≤ 8) (j : Nat) : deN (l.take j) < 18446744073709551616 := by
  have h := deN_lt (l.take j)
  have h2 : (l.take j).length ≤ 8 := by rw [List.length_take]; omega
  have h3 : 256 ^ (l.take j).length ≤ 256 ^ 8 := Nat.pow_le_pow_right (by omega) h2
  omega

set_option maxRecDepth 100000 in
set_option maxHeartbeats 1000000 in
theorem get_any (A : Option Addr) (n c : Nat) (l : List UInt8) (w : World) (hr : RdB w A n c l) (hn : n ≤ 8) :
    Calls Tryz.prog 112 #[.slice A n c] w fun e w' => e = .returned (.int .u64 (deN l : Int)) ∧ w = w' := by
  have hl := hr.length
  go_enter Tryz.func112, Tryz.ntmps112
  go_wp2_with fail
  go_loop [3, 8] (fun v i => ∃ j : Nat, j ≤ n ∧ i = .int .i64 j ∧ v = .int .u64 (deN (l.take j) : Int)) (fun _ i => n - (intOf i).toNat)
  case atStart => exact ⟨0, by omega, rfl, by simp [deN]⟩
  case round =>
    obtain ⟨j, hj, rfl, rfl⟩ := hrel
    by_cases hlt : j < n
    · obtain ⟨b, o, rfl, hcell⟩ := hr.cell_at0 j (by omega)
      have hx := (l[j]'(by omega)).toNat_lt
      have hlt2 := deN_take_lt l (by omega) j
      have hlt3 := deN_take_lt l (by omega) (j + 1)
      have hsn : deN (l.take (j + 1)) = deN (l.take j) * 256 + (l[j]'(by omega)).toNat := by rw [List.take_succ_eq_append_getElem (by omega), deN_snoc]
      rw [hsn] at hlt3
      have hor := get_step (deN (l.take j)) (l[j]'(by omega)) hlt3
      have Hsn := Lib.hid hsn
      clear hsn
      generalize hz : l[j]'(by omega) = z at *
      generalize hm : deN (l.take j) = m at *
      have hwr : IntKind.u64.wrap ((m : Int) * 256) = ((m * 256 : Nat) : Int) := by rw [IntKind.wrap_u64]; omega
      clear hz hm
      have Hor := Lib.hid hor
      clear hor
      go_wp2_with fail
      rw [Hor.out]
      refine ⟨⟨j + 1, by omega, by go_num, by rw [Hsn.out]⟩, ?_⟩
      simp [intOf]
      omega
    · obtain rfl : j = n := by omega
      clear hlt hj
      rw [List.take_of_length_le (by omega)]
      go_wp2_with fail
      go_ret
      exact ⟨rfl, rfl⟩

end Go.Proofs.YtbkncfedahifkaaGreat

/-
  Package wal: what a log is; half, size, sectors, most, Count, Room, long, bytes.
-/
set_option linter.unusedVariables false
set_option linter.unusedSimpArgs false
namespace Go.Proofs.YtbkncfedahifkaaGreat
open Go.RowKit Go.Maps

/-- A log at block lb, its map (that is empty) at um, over a disk. -/
structure LogS (w : World) (lb um b g m : Nat) (X : List Nat) (n sz : Nat) (R : Nat → List UInt8) (turn next at_ count : Nat) : Prop where
  cells : w.heap[lb]? = some (.cells #[.pointer (some ⟨b, 0, none⟩), .int .u64 (turn : Int), .int .u64 (next : Int), .int .i64 (at_ : Int), .int .i64 (count : Int), .map (some um)] 146 (0, 0))
  map : w.ownsMap Tryz.prog 3 selfR um 0 (.map [])
  live : Live w b g m (lb :: um :: X) n sz R
  lX : lb ∉ X
  uX : um ∉ X
  n16 : 16 ≤ n
  s128 : 128 ≤ sz
  turnB : turn < 18446744073709551616
  nextB : next < 18446744073709551616
  atB : at_ ≤ n / 2
  countB : count < 4611686018427387904

section
variable {w w' : World} {lb um b g m n sz turn next at_ count : Nat} {X : List Nat} {R : Nat → List UInt8}
theorem LogS.lu (h : LogS w lb um b g m X n sz R turn next at_ count) : lb ≠ um := by
  rintro rfl
  obtain ⟨es, clock, hb, _⟩ := h.map
  rw [h.cells] at hb
  simp at hb
theorem LogS.bds (h : LogS w lb um b g m X n sz R turn next at_ count) : 16 ≤ n ∧ n ≤ 4096 ∧ 128 ≤ sz ∧ sz ≤ 4096 := by
  have := h.live.bds
  have h1 := h.n16
  have h2 := h.s128
  omega
theorem LogS.keep (h : LogS w lb um b g m X n sz R turn next at_ count) (hc : Ch X w w') : LogS w' lb um b g m X n sz R turn next at_ count :=
  { h with
    cells := hc.at_ h.cells h.lX
    map := by
      obtain ⟨es, clock, hb, F, hs, hD⟩ := h.map
      exact ⟨es, clock, hc.at_ hb h.uX, F, hs, hD⟩
    live := h.live.keep (hc.mono (by intro x hx; left; simp [hx])) }
theorem LogS.nil (h : LogS w lb um b g m X n sz R turn next at_ count) (hc : Ch [] w w') : LogS w' lb um b g m X n sz R turn next at_ count := h.keep (hc.mono (by simp))
end

section
variable {lb um b g m n sz turn next at_ count : Nat} {X : List Nat} {R : Nat → List UInt8}

theorem whalf (w : World) (h : LogS w lb um b g m X n sz R turn next at_ count) : Calls Tryz.prog 141 #[.pointer (some ⟨lb, 0, none⟩)] w fun e w' => e = .returned (.int .i64 ((n / 2 : Nat) : Int)) ∧ w = w' := by
  have hb := h.bds
  have h0 := cell_at h.cells 0 rfl
  go_enter Tryz.func141, Tryz.ntmps141
  go_wp2_with fail
  refine (live_sectors _ _ _ _ _ _ _ w h.live).mono ?_
  rintro e w' ⟨rfl, rfl⟩
  go_wp2_with fail
  go_ret
  exact ⟨rfl, rfl⟩
theorem wsize (w : World) (h : LogS w lb um b g m X n sz R turn next at_ count) : Calls Tryz.prog 111 #[.pointer (some ⟨lb, 0, none⟩)] w fun e w' => e = .returned (.int .i64 ((sz - 16 : Nat) : Int)) ∧ w = w' := by
  have hb := h.bds
  have h0 := cell_at h.cells 0 rfl
  have he : (sz : Int) - 16 = ((sz - 16 : Nat) : Int) := by omega
  have He := Lib.hid he
  clear he
  rw [← He.out]
  go_enter Tryz.func111, Tryz.ntmps111
  go_wp2_with fail
  refine (live_size _ _ _ _ _ _ _ w h.live).mono ?_
  rintro e w' ⟨rfl, rfl⟩
  go_wp2_with fail
  go_ret
  exact ⟨rfl, rfl⟩
/-- How many sectors so many bytes take. -/
def secsN (S k : Nat) : Nat := k / S + min (k % S) 1
theorem wsectors (k : Nat) (w : World) (h : LogS w lb um b g m X n sz R turn next at_ count) (hk : k ≤ 1000000000000) : Calls Tryz.prog 114 #[.pointer (some ⟨lb, 0, none⟩), .int .i64 (k : Int)] w fun e w' => e = .returned (.int .i64 (secsN (sz - 16) k : Int)) ∧ Ch [] w w' := by
  have hb := h.bds
  have hS0 : 0 < sz - 16 := by omega
  have hS1 : sz - 16 ≤ 4096 := by omega
  have hz := wsize w.drew (h.nil (Ch.refl _ _).drew)
  generalize hSe : sz - 16 = S at *
  have hd := Nat.div_le_self k S
  have hm := Nat.mod_lt k hS0
  have hS00 : ¬ S = 0 := by omega
  have e1 : (k : Int) / (S : Int) = ((k / S : Nat) : Int) := (Int.natCast_ediv k S).symm
  have e2 : (k : Int) % (S : Int) = ((k % S : Nat) : Int) := (Int.natCast_emod k S).symm
  have e2' : (k : Int).tmod (S : Int) = ((k % S : Nat) : Int) := by rw [Int.tmod_eq_emod_of_nonneg (by omega), e2]
  have e3 : IntKind.i64.wrap (((k / S : Nat) : Int) + min ((k % S : Nat) : Int) 1) = ((secsN S k : Nat) : Int) := by
    unfold secsN
    clear e1 e2 e2'
    generalize k / S = a at *
    generalize k % S = b at *
    rw [IntKind.wrap_i64]
    omega
  have e4 : IntKind.i64.wrap ((k / S : Nat) : Int) = ((k / S : Nat) : Int) := by
    clear e1 e2 e2' e3
    generalize k / S = a at *
    rw [IntKind.wrap_i64]
    omega
  have hfin : IntKind.i64.wrap (IntKind.i64.wrap ((k : Int) / (S : Int)) + min ((k : Int).tmod (S : Int)) 1) = ((secsN S k : Nat) : Int) := by rw [e1, e4, e2', e3]
  have Hfin := Lib.hid hfin
  clear e1 e2 e2' e3 e4 hfin
  go_enter Tryz.func114, Tryz.ntmps114
  have Hz := Lib.hid hz
  clear hz
  go_wp2_with fail
  refine dr_begin (by kernel_rfl) ?_
  have hT : True := trivial
  refine dr_take 0 (some 5) (v := ?_) rfl rfl (by kernel_rfl) (by kernel_rfl) (by kernel_rfl) (fun _ _ _ h => h) rfl hT (fun W _ => ?_) ?_
  rotate_left
  · (go_simp; try with_reducible rfl)
  try simp only [Act.put, List.setIfInBounds_toArray, List.set_cons_zero, List.set_cons_succ]
  refine dr_take 1 (some 6) (v := ?_) rfl rfl (by kernel_rfl) (by kernel_rfl) (by kernel_rfl) (fun _ _ _ h => h) rfl hT (fun W _ => ?_) ?_
  rotate_left
  · (go_simp; try with_reducible rfl)
  try simp only [Act.put, List.setIfInBounds_toArray, List.set_cons_zero, List.set_cons_succ]
  refine dr_take 4 (some 9) (v := ?_) rfl rfl (by kernel_rfl) (by kernel_rfl) (by kernel_rfl) (fun _ _ _ h => h) rfl hT (fun W _ => ?_) ?_
  rotate_left
  · (go_simp; try with_reducible rfl)
  try simp only [Act.put, List.setIfInBounds_toArray, List.set_cons_zero, List.set_cons_succ]
  refine dr_take 5 (some 10) (v := ?_) rfl rfl (by kernel_rfl) (by kernel_rfl) (by kernel_rfl) (fun _ _ _ h => h) rfl hT (fun W _ => ?_) ?_
  rotate_left
  · (go_simp; try with_reducible rfl)
  try simp only [Act.put, List.setIfInBounds_toArray, List.set_cons_zero, List.set_cons_succ]
  refine dr_step 2 rfl (by kernel_rfl) rfl (fun K hK => ?_)
  go_simp
  refine Hz.out.mono ?_
  rintro e v ⟨rfl, rfl⟩
  refine hK.out _ _ hT ?_
  clear hK K
  try simp only [Act.put, List.setIfInBounds_toArray, List.set_cons_zero, List.set_cons_succ]
  refine dr_take 3 (some 8) (v := ?_) rfl rfl (by kernel_rfl) (by kernel_rfl) (by kernel_rfl) (fun _ _ _ h => h) rfl hT (fun W _ => ?_) ?_
  rotate_left
  · (go_simp; try with_reducible rfl)
  try simp only [Act.put, List.setIfInBounds_toArray, List.set_cons_zero, List.set_cons_succ]
  refine dr_step 6 rfl (by kernel_rfl) rfl (fun K hK => ?_)
  go_simp
  refine Hz.out.mono ?_
  rintro e v ⟨rfl, rfl⟩
  refine hK.out _ _ hT ?_
  clear hK K
  try simp only [Act.put, List.setIfInBounds_toArray, List.set_cons_zero, List.set_cons_succ]
  refine dr_take 7 (some 12) (v := ?_) rfl rfl (by kernel_rfl) (by kernel_rfl) (by kernel_rfl) (fun _ _ _ h => h) rfl hT (fun W _ => ?_) ?_
  rotate_left
  · (go_simp; try with_reducible rfl)
  try simp only [Act.put, List.setIfInBounds_toArray, List.set_cons_zero, List.set_cons_succ]
  refine dr_take 8 (some 13) (v := ?_) rfl rfl (by kernel_rfl) (by kernel_rfl) (by kernel_rfl) (fun _ _ _ h => h) rfl hT (fun W _ => ?_) ?_
  rotate_left
  · (go_simp; try with_reducible rfl)
  try simp only [Act.put, List.setIfInBounds_toArray, List.set_cons_zero, List.set_cons_succ]
  refine dr_take 9 (some 14) (v := ?_) rfl rfl (by kernel_rfl) (by kernel_rfl) (by kernel_rfl) (fun _ _ _ h => h) rfl hT (fun W _ => ?_) ?_
  rotate_left
  · (go_simp; try with_reducible rfl)
  try simp only [Act.put, List.setIfInBounds_toArray, List.set_cons_zero, List.set_cons_succ]
  refine dr_take 10 (some 4) (v := ?_) rfl rfl (by kernel_rfl) (by kernel_rfl) (by kernel_rfl) (fun _ _ _ h => h) rfl hT (fun W _ => ?_) ?_
  rotate_left
  · (go_simp; try with_reducible rfl)
  try simp only [Act.put, List.setIfInBounds_toArray, List.set_cons_zero, List.set_cons_succ]
  refine dr_done (by kernel_rfl) ?_
  go_wp2_with fail
  go_ret
  exact ⟨congrArg (fun z => Ending.returned (.int .i64 z)) Hfin.out, (Ch.refl _ _).drew⟩
theorem wmost (a : Nat) (w : World) (h : LogS w lb um b g m X n sz R turn next at_ count) (ha : a ≤ n / 2) : Calls Tryz.prog 113 #[.pointer (some ⟨lb, 0, none⟩), .int .i64 (a : Int)] w fun e w' => e = .returned (.int .i64 (((n / 2 - a) * (sz - 16) : Nat) : Int)) ∧ w = w' := by
  have hb := h.bds
  have hh := whalf w h
  have hs := wsize w h
  have e1 : ((n / 2 : Nat) : Int) - (a : Int) = ((n / 2 - a : Nat) : Int) := by omega
  have b2 : n / 2 - a ≤ 2048 := by omega
  have b3 : sz - 16 ≤ 4096 := by omega
  have b4 : (n / 2 - a) * (sz - 16) ≤ 2048 * 4096 := Nat.mul_le_mul b2 b3
  have e2 : wrap64 ((((n / 2 : Nat) : Int) - (a : Int)) * ((sz - 16 : Nat) : Int)) = (((n / 2 - a) * (sz - 16) : Nat) : Int) := by
    rw [e1, ← Int.natCast_mul, wrap64]
    omega
  have E2 := Lib.hid e2
  clear e1 e2 b4
  generalize hx : n / 2 = x at *
  generalize hy : sz - 16 = y at *
  go_enter Tryz.func113, Tryz.ntmps113
  go_wp2_with fail
  refine hh.mono ?_
  rintro e w' ⟨rfl, rfl⟩
  go_wp2_with fail
  refine hs.mono ?_
  rintro e w' ⟨rfl, rfl⟩
  go_wp2_with fail
  go_ret
  exact ⟨congrArg (fun z => Ending.returned (.int .i64 z)) E2.out, rfl⟩
/-- How many bytes a commit may have. -/
def roomN (n sz at_ : Nat) : Nat := (n / 2 - at_) * (sz - 16) - 36
end

/-! ### records -/
/-- A record: bytes that lie in a block that is none of F. -/
def RowV (w : World) (F : List Nat) (v : Value) (l : List UInt8) : Prop := ∃ A n c, v = .slice A n c ∧ RdB w A n c l ∧ ∀ a, A = some a → a.block ∉ F
/-- Records: a slice of them. -/
structure Recs (w : World) (F : List Nat) (A : Option Addr) (n c : Nat) (rs : List (List UInt8)) : Prop where
  rd : ∃ vs, Rd 1 w A n c vs ∧ ∀ (i : Nat) (h : i < rs.length), ∃ v, vs[i]? = some v ∧ RowV w F v rs[i]
  len : rs.length = n
  out : ∀ a, A = some a → a.block ∉ F
theorem RowV.keep {w w' : World} {F G : List Nat} {v : Value} {l : List UInt8} (h : RowV w F v l) (hc : Ch G w w') (hG : ∀ x ∈ G, x ∈ F) : RowV w' F v l := by
  obtain ⟨A, n, c, rfl, h1, h2⟩ := h
  exact ⟨A, n, c, rfl, h1.keep hc (fun a ha hg => h2 a ha (hG _ hg)), h2⟩
theorem RowV.sub {w : World} {F G : List Nat} {v : Value} {l : List UInt8} (h : RowV w F v l) (hG : ∀ x ∈ G, x ∈ F) : RowV w G v l := by
  obtain ⟨A, n, c, rfl, h1, h2⟩ := h
  exact ⟨A, n, c, rfl, h1, fun a ha hg => h2 a ha (hG _ hg)⟩
theorem Recs.keep {w w' : World} {F G : List Nat} {A : Option Addr} {n c : Nat} {rs : List (List UInt8)} (h : Recs w F A n c rs) (hc : Ch G w w') (hG : ∀ x ∈ G, x ∈ F) : Recs w' F A n c rs := by
  obtain ⟨⟨vs, h1, h2⟩, h3, h4⟩ := h
  exact ⟨⟨vs, h1.keep hc (fun a ha hg => h4 a ha (hG _ hg)), fun i hi => by
    obtain ⟨v, q1, q2⟩ := h2 i hi
    exact ⟨v, q1, q2.keep hc hG⟩⟩, h3, h4⟩
theorem Recs.nil {w w' : World} {F : List Nat} {A : Option Addr} {n c : Nat} {rs : List (List UInt8)} (h : Recs w F A n c rs) (hc : Ch [] w w') : Recs w' F A n c rs := h.keep hc (by simp)
theorem Recs.sub {w : World} {F G : List Nat} {A : Option Addr} {n c : Nat} {rs : List (List UInt8)} (h : Recs w F A n c rs) (hG : ∀ x ∈ G, x ∈ F) : Recs w G A n c rs := by
  obtain ⟨⟨vs, h1, h2⟩, h3, h4⟩ := h
  exact ⟨⟨vs, h1, fun i hi => by
    obtain ⟨v, q1, q2⟩ := h2 i hi
    exact ⟨v, q1, q2.sub hG⟩⟩, h3, fun a ha hg => h4 a ha (hG _ hg)⟩
theorem Recs.empty (w : World) (F : List Nat) : Recs w F none 0 0 [] := ⟨⟨[], Rd.empty 1 w none 0 (by omega), fun i hi => by simp at hi⟩, rfl, by simp⟩
/-- The i-th record. -/
theorem Recs.at0 {w : World} {F : List Nat} {A : Option Addr} {n c : Nat} {rs : List (List UInt8)} (h : Recs w F A n c rs) (i : Nat) (hi : i < rs.length) :
    ∃ b o A' n' c', A = some ⟨b, o, none⟩ ∧ w.cell? ⟨b, o + i, none⟩ = some (.slice A' n' c') ∧ RdB w A' n' c' rs[i] ∧ (∀ a, A' = some a → a.block ∉ F) ∧ n' = rs[i].length := by
  obtain ⟨⟨vs, h1, h2⟩, h3, h4⟩ := h
  obtain ⟨v, q1, A', n', c', rfl, q2, q3⟩ := h2 i hi
  obtain ⟨b, o, e, hc⟩ := h1.cells (by omega)
  exact ⟨b, o, A', n', c', e, hc i _ q1, q2, q3, q2.length.symm⟩

def longB (r : List UInt8) : Bool := decide (1048576 < r.length)
theorem wlong (A : Option Addr) (n c : Nat) (r : List UInt8) (w : World) (hr : r.length = n) : Calls Tryz.prog 120 #[.slice A n c] w fun e w' => e = .returned (.bool (longB r)) ∧ w = w' := by
  have e : decide ((n : Int) > 1048576) = longB r := by
    unfold longB
    rw [hr, decide_eq_decide]
    omega
  have E := Lib.hid e
  clear e
  rw [← E.out]
  go_enter Tryz.func120, Tryz.ntmps120
  go_wp2_with fail
  go_ret
  exact ⟨rfl, rfl⟩

set_option maxRecDepth 100000 in
theorem windex (A : Option Addr) (n c : Nat) (F : List Nat) (rs : List (List UInt8)) (w : World) (h : Recs w F A n c rs) (hn : n ≤ 1000000) :
    Calls Tryz.prog 144 #[.slice A n c, .func (.func 120) #[] #[]] w fun e w' => (∃ k : Int, e = .returned (.int .i64 k) ∧ decide (k ≥ 0) = rs.any longB) ∧ w = w' := by
  have hl := h.len
  have hcf : ∀ args W, (callFunc 120 args).run Tryz.prog W = .ok (.enter 120 args) W := fun args W => (enters_of Tryz.func120 (by kernel_rfl) rfl) args W
  go_enter Tryz.func144, Tryz.ntmps144
  go_wp2_with fail
  go_loop [8] (fun i => ∃ k : Nat, k ≤ n ∧ i = .int .i64 k ∧ (rs.take k).any longB = false) (fun i => n - (intOf i).toNat)
  case atStart => exact ⟨0, by omega, rfl, rfl⟩
  case round =>
    obtain ⟨k, hk, rfl, hno⟩ := hrel
    by_cases hlt : k < n
    · obtain ⟨b, o, A', n', c', rfl, hc, hrd, _, hn'⟩ := h.at0 k (by omega)
      cases hlg : longB (rs[k]'(by omega)) with
      | true =>
        have hany : rs.any longB = true := List.any_eq_true.2 ⟨_, List.getElem_mem _, hlg⟩
        have HA := Lib.hid hany
        have HN := Lib.hid hno
        have hlo := wlong A' n' c' (rs[k]'(by omega)) w hn'.symm
        rw [hlg] at hlo
        clear hany hno hlg hn'
        go_wp2_with fail
        refine hlo.mono ?_
        rintro e w' ⟨rfl, rfl⟩
        go_wp2_with fail
        go_ret
        exact ⟨⟨_, rfl, by rw [HA.out]; simp⟩, rfl⟩
      | false =>
        have hno2 : (rs.take (k + 1)).any longB = false := by
          rw [List.take_succ_eq_append_getElem (by omega), List.any_append, hno]
          simp [hlg]
        have HN := Lib.hid hno2
        have hlo := wlong A' n' c' (rs[k]'(by omega)) w hn'.symm
        rw [hlg] at hlo
        clear hno hno2 hlg hn'
        go_wp2_with fail
        refine hlo.mono ?_
        rintro e w' ⟨rfl, rfl⟩
        go_wp2_with fail
        go_round
        case rel => exact ⟨k + 1, by omega, by go_num, HN.out⟩
        case measure => simp [intOf]; omega
    · obtain rfl : k = n := by omega
      rw [List.take_of_length_le (by omega)] at hno
      have HN := Lib.hid hno
      clear hlt hk hno
      go_wp2_with fail
      go_ret
      exact ⟨⟨-1, rfl, by rw [HN.out]; rfl⟩, rfl⟩
theorem wcontains (A : Option Addr) (n c : Nat) (F : List Nat) (rs : List (List UInt8)) (w : World) (h : Recs w F A n c rs) (hn : n ≤ 1000000) :
    Calls Tryz.prog 119 #[.slice A n c, .func (.func 120) #[] #[]] w fun e w' => e = .returned (.bool (rs.any longB)) ∧ w = w' := by
  have hi := windex A n c F rs w h hn
  go_enter Tryz.func119, Tryz.ntmps119
  go_wp2_with fail
  refine hi.mono ?_
  rintro e w' ⟨⟨k, rfl, hk⟩, rfl⟩
  have HK := Lib.hid hk
  clear hk
  go_wp2_with fail
  go_ret
  exact ⟨congrArg (fun z => Ending.returned (.bool z)) HK.out, rfl⟩

/-- How many bytes records take; more than all count as that. -/
def bytesN (all : Nat) (rs : List (List UInt8)) : Nat := rs.foldl (fun a r => min (a + 4 + r.length) (all + 1)) 32
theorem bytesN_le (all : Nat) (rs : List (List UInt8)) (h : 31 ≤ all) : bytesN all rs ≤ all + 1 := by
  unfold bytesN
  have : ∀ (rs : List (List UInt8)) (a : Nat), a ≤ all + 1 → rs.foldl (fun a r => min (a + 4 + r.length) (all + 1)) a ≤ all + 1 := by
    intro rs
    induction rs with
    | nil => intro a ha; exact ha
    | cons r rs ih => intro a ha; rw [List.foldl_cons]; exact ih _ (Nat.min_le_right _ _)
  exact this rs 32 (by omega)
theorem bytesN_snoc (all : Nat) (rs : List (List UInt8)) (r : List UInt8) : bytesN all (rs ++ [r]) = min (bytesN all rs + 4 + r.length) (all + 1) := by simp [bytesN]

section
variable {lb um b g m n sz turn next at_ count : Nat} {X : List Nat} {R : Nat → List UInt8}
set_option maxRecDepth 100000 in
set_option maxHeartbeats 1000000 in
theorem wbytesN (A : Option Addr) (k c : Nat) (F : List Nat) (rs : List (List UInt8)) (w : World) (h : LogS w lb um b g m X n sz R turn next at_ count) (hr : Recs w F A k c rs) (hk : k ≤ 1000000) (hlen : ∀ r ∈ rs, r.length ≤ 1000000000000) :
    Calls Tryz.prog 121 #[.pointer (some ⟨lb, 0, none⟩), .slice A k c] w fun e w' => e = .returned (.int .i64 (bytesN (n * sz) rs : Int)) ∧ Ch [] w w' := by
  have hb := h.bds
  have hl := hr.len
  have h0 := cell_at h.cells 0 rfl
  have hs := live_sectors _ _ _ _ _ _ _ w.drew (h.live.nil (Ch.refl _ _).drew)
  have hz := live_size _ _ _ _ _ _ _ w.drew (h.live.nil (Ch.refl _ _).drew)
  have hall : n * sz ≤ 4096 * 4096 := Nat.mul_le_mul hb.2.1 hb.2.2.2
  have hall2 : 16 * 128 ≤ n * sz := Nat.mul_le_mul hb.1 hb.2.2.1
  have hw : IntKind.i64.wrap ((n : Int) * (sz : Int)) = ((n * sz : Nat) : Int) := by rw [← Int.natCast_mul, IntKind.wrap_i64]; omega
  have Hw := Lib.hid hw
  have Hs := Lib.hid hs
  have Hz := Lib.hid hz
  clear hs hz hw
  generalize hq : n * sz = q at *
  go_enter Tryz.func121, Tryz.ntmps121
  go_wp2_with fail
  refine dr_begin (by kernel_rfl) ?_
  refine dr_more (fun W => W.cell? ⟨lb, 0, none⟩ = some (.pointer (some ⟨b, 0, none⟩))) ?_
  have hT : True ∧ w.drew.cell? ⟨lb, 0, none⟩ = some (.pointer (some ⟨b, 0, none⟩)) := ⟨trivial, h0⟩
  refine dr_take 0 (some 9) (v := ?_) rfl rfl (by kernel_rfl) (by kernel_rfl) (by kernel_rfl) (fun _ _ _ h => h) rfl hT (fun W _ => ?_) ?_
  rotate_left
  · (go_simp; try with_reducible rfl)
  try simp only [Act.put, List.setIfInBounds_toArray, List.set_cons_zero, List.set_cons_succ]
  refine dr_take 1 (some 10) (v := ?_) rfl rfl (by kernel_rfl) (by kernel_rfl) (by kernel_rfl) (fun _ _ _ h => h) rfl hT (fun W _ => ?_) ?_
  rotate_left
  · (go_simp; try with_reducible rfl)
  try simp only [Act.put, List.setIfInBounds_toArray, List.set_cons_zero, List.set_cons_succ]
  refine dr_take 2 (some 11) (v := ?_) rfl rfl (by kernel_rfl) (by kernel_rfl) (by kernel_rfl) (fun _ _ _ h => h) rfl hT (fun W _ => ?_) ?_
  rotate_left
  · (go_simp; try with_reducible rfl)
  try simp only [Act.put, List.setIfInBounds_toArray, List.set_cons_zero, List.set_cons_succ]
  refine dr_take 3 (some 12) (v := ?_) rfl rfl (by kernel_rfl) (by kernel_rfl) (by kernel_rfl) (fun _ _ _ h => h) rfl hT (fun W hW => ?_) ?_
  rotate_left
  · (have h1 := hW.2; go_simp; try with_reducible rfl)
  try simp only [Act.put, List.setIfInBounds_toArray, List.set_cons_zero, List.set_cons_succ]
  refine dr_take 4 (some 13) (v := ?_) rfl rfl (by kernel_rfl) (by kernel_rfl) (by kernel_rfl) (fun _ _ _ h => h) rfl hT (fun W _ => ?_) ?_
  rotate_left
  · (go_simp; try with_reducible rfl)
  try simp only [Act.put, List.setIfInBounds_toArray, List.set_cons_zero, List.set_cons_succ]
  refine dr_take 5 (some 14) (v := ?_) rfl rfl (by kernel_rfl) (by kernel_rfl) (by kernel_rfl) (fun _ _ _ h => h) rfl hT (fun W _ => ?_) ?_
  rotate_left
  · (go_simp; try with_reducible rfl)
  try simp only [Act.put, List.setIfInBounds_toArray, List.set_cons_zero, List.set_cons_succ]
  refine dr_take 7 (some 16) (v := ?_) rfl rfl (by kernel_rfl) (by kernel_rfl) (by kernel_rfl) (fun _ _ _ h => h) rfl hT (fun W _ => ?_) ?_
  rotate_left
  · (go_simp; try with_reducible rfl)
  try simp only [Act.put, List.setIfInBounds_toArray, List.set_cons_zero, List.set_cons_succ]
  refine dr_take 8 (some 17) (v := ?_) rfl rfl (by kernel_rfl) (by kernel_rfl) (by kernel_rfl) (fun _ _ _ h => h) rfl hT (fun W _ => ?_) ?_
  rotate_left
  · (go_simp; try with_reducible rfl)
  try simp only [Act.put, List.setIfInBounds_toArray, List.set_cons_zero, List.set_cons_succ]
  refine dr_take 9 (some 18) (v := ?_) rfl rfl (by kernel_rfl) (by kernel_rfl) (by kernel_rfl) (fun _ _ _ h => h) rfl hT (fun W _ => ?_) ?_
  rotate_left
  · (go_simp; try with_reducible rfl)
  try simp only [Act.put, List.setIfInBounds_toArray, List.set_cons_zero, List.set_cons_succ]
  refine dr_take 10 (some 19) (v := ?_) rfl rfl (by kernel_rfl) (by kernel_rfl) (by kernel_rfl) (fun _ _ _ h => h) rfl hT (fun W hW => ?_) ?_
  rotate_left
  · (have h1 := hW.2; go_simp; try with_reducible rfl)
  try simp only [Act.put, List.setIfInBounds_toArray, List.set_cons_zero, List.set_cons_succ]
  refine dr_take 11 (some 20) (v := ?_) rfl rfl (by kernel_rfl) (by kernel_rfl) (by kernel_rfl) (fun _ _ _ h => h) rfl hT (fun W _ => ?_) ?_
  rotate_left
  · (go_simp; try with_reducible rfl)
  try simp only [Act.put, List.setIfInBounds_toArray, List.set_cons_zero, List.set_cons_succ]
  refine dr_take 12 (some 21) (v := ?_) rfl rfl (by kernel_rfl) (by kernel_rfl) (by kernel_rfl) (fun _ _ _ h => h) rfl hT (fun W _ => ?_) ?_
  rotate_left
  · (go_simp; try with_reducible rfl)
  try simp only [Act.put, List.setIfInBounds_toArray, List.set_cons_zero, List.set_cons_succ]
  refine dr_step 6 rfl (by kernel_rfl) rfl (fun K hK => ?_)
  go_simp
  refine Hs.out.mono ?_
  rintro e v ⟨rfl, rfl⟩
  refine hK.out _ _ hT ?_
  clear hK K
  try simp only [Act.put, List.setIfInBounds_toArray, List.set_cons_zero, List.set_cons_succ]
  refine dr_step 13 rfl (by kernel_rfl) rfl (fun K hK => ?_)
  go_simp
  refine Hz.out.mono ?_
  rintro e v ⟨rfl, rfl⟩
  refine hK.out _ _ hT ?_
  clear hK K
  try simp only [Act.put, List.setIfInBounds_toArray, List.set_cons_zero, List.set_cons_succ]
  refine dr_take 14 (some 23) (v := ?_) rfl rfl (by kernel_rfl) (by kernel_rfl) (by kernel_rfl) (fun _ _ _ h => h) rfl hT (fun W _ => ?_) ?_
  rotate_left
  · (go_simp; try with_reducible rfl)
  try simp only [Act.put, List.setIfInBounds_toArray, List.set_cons_zero, List.set_cons_succ]
  refine dr_take 15 (some 5) (v := ?_) rfl rfl (by kernel_rfl) (by kernel_rfl) (by kernel_rfl) (fun _ _ _ h => h) rfl hT (fun W _ => ?_) ?_
  rotate_left
  · (go_simp; try with_reducible rfl)
  try simp only [Act.put, List.setIfInBounds_toArray, List.set_cons_zero, List.set_cons_succ]
  refine dr_done (by kernel_rfl) ?_
  rw [Hw.out]
  have hrd := hr.nil (Ch.refl [] w).drew
  clear hr
  go_wp2_with fail
  go_loop [6, 26] (fun v i => ∃ j : Nat, j ≤ k ∧ i = .int .i64 j ∧ v = .int .i64 (bytesN q (rs.take j) : Int)) (fun _ i => k - (intOf i).toNat)
  case atStart => exact ⟨0, by omega, rfl, rfl⟩
  case round =>
    obtain ⟨j, hj, rfl, rfl⟩ := hrel
    by_cases hlt : j < k
    · obtain ⟨b', o, A', n', c', rfl, hc, _, _, hn'⟩ := hrd.at0 j (by omega)
      have hle := bytesN_le q (rs.take j) (by omega)
      have hlj := hlen _ (List.getElem_mem (show j < rs.length by omega))
      have hsn : bytesN q (rs.take (j + 1)) = min (bytesN q (rs.take j) + 4 + n') (q + 1) := by rw [List.take_succ_eq_append_getElem (by omega), bytesN_snoc, hn']
      rw [← hn'] at hlj
      have Hsn := Lib.hid hsn
      clear hsn hn'
      generalize bytesN q (rs.take j) = B at *
      have he : min ((B : Int) + 4 + (n' : Int)) ((q : Int) + 1) = ((min (B + 4 + n') (q + 1) : Nat) : Int) := by omega
      have He := Lib.hid he
      clear he
      go_wp2_with fail
      rw [He.out]
      go_round
      case rel => exact ⟨j + 1, by omega, by go_num, by rw [Hsn.out]⟩
      case measure => simp [intOf]; omega
    · obtain rfl : j = k := by omega
      rw [List.take_of_length_le (by omega)]
      clear hlt hj
      go_wp2_with fail
      go_ret
      exact ⟨rfl, (Ch.refl _ _).drew⟩
end

end Go.Proofs.YtbkncfedahifkaaGreat

/-
  Package wal: frame.
-/
set_option linter.unusedVariables false
set_option linter.unusedSimpArgs false
namespace Go.Proofs.YtbkncfedahifkaaGreat
open Go.RowKit Go.Maps

def signB : List UInt8 := [72, 65, 86, 69, 82, 83, 65, 75]
/-- Records' bytes. -/
def bodyB (rs : List (List UInt8)) : List UInt8 := rs.flatMap fun r => beN 4 r.length ++ r
/-- A frame. -/
def frameB (turn next : Nat) (rs : List (List UInt8)) : List UInt8 := signB ++ beN 8 turn ++ beN 8 next ++ beN 8 (bodyB rs).length ++ bodyB rs
theorem bodyB_snoc (rs : List (List UInt8)) (r : List UInt8) : bodyB (rs ++ [r]) = bodyB rs ++ (beN 4 r.length ++ r) := by simp [bodyB]
theorem bodyB_take_le (rs : List (List UInt8)) (k : Nat) : (bodyB (rs.take k)).length ≤ (bodyB rs).length := by
  have : bodyB rs = bodyB (rs.take k) ++ bodyB (rs.drop k) := by unfold bodyB; rw [← List.flatMap_append, List.take_append_drop]
  rw [this, List.length_append]
  omega

/-- A row of one's own, its block known whole. -/
theorem own_block {w : World} {base g n cap : Nat} {L : List UInt8} (h : w.ownsRow base 5 1 (.slice (some ⟨g, 0, none⟩) n cap) n (bvs L)) :
    ∃ cur : List Value, w.heap[g]? = some (.cells cur.toArray 5 (0, 0)) ∧ base ≤ g ∧ n ≤ cap ∧ cap ≤ maxLen ∧ cur.length = cap ∧ cur.take n = bvs L ∧ L.length = n := by
  have hl0 := h.1
  rcases h.2 with ⟨e, _⟩ | ⟨g', cap', cur, e, h1, h2, h3, h4, h5, h6⟩
  · cases e
  · simp only [Value.slice.injEq, Option.some.injEq, Addr.mk.injEq, and_true, true_and] at e
    obtain ⟨rfl, rfl⟩ := e
    exact ⟨cur.toList, by simpa using h2, h1, h3, h4, by rw [Array.length_toList]; omega, by simpa using h6, by simpa [bvs] using hl0⟩
theorem block_own {w : World} {base g n cap : Nat} {L : List UInt8} {cur : List Value} (h1 : w.heap[g]? = some (.cells cur.toArray 5 (0, 0))) (h2 : base ≤ g) (h3 : n ≤ cap) (h4 : cap ≤ maxLen) (h5 : cur.length = cap) (h6 : cur.take n = bvs L) (h7 : L.length = n) :
    w.ownsRow base 5 1 (.slice (some ⟨g, 0, none⟩) n cap) n (bvs L) :=
  ⟨by simp [bvs, h7], .inr ⟨g, cap, cur.toArray, rfl, h2, h1, h3, h4, by simp [h5], by simpa using h6⟩⟩

theorem own_form {w : World} {base n : Nat} {v : Value} {L : List UInt8} (h : w.ownsRow base 5 1 v n (bvs L)) (hn : 0 < n) : ∃ g cap, v = .slice (some ⟨g, 0, none⟩) n cap ∧ base ≤ g ∧ g < w.heap.size := by
  have hL : L.length = n := by have := h.1; simpa [bvs] using this
  obtain ⟨A, c, rfl⟩ := own_slice h
  subst hL
  obtain ⟨g, cap, e, h1, h2, _⟩ := OwnB.get ⟨A, c, rfl, h⟩ hn
  exact ⟨g, cap, e, h1, h2⟩
theorem copy_sign {w : World} {base g n cap : Nat} {L : List UInt8} (h : w.ownsRow base 5 1 (.slice (some ⟨g, 0, none⟩) n cap) n (bvs L)) (hn : 8 ≤ n) (ty : TypeId) :
    ∃ w', (Builtin.copy_ #[45, 9] ty #[.slice (some ⟨g, 0, none⟩) n cap, .string ⟨#[72, 65, 86, 69, 82, 83, 65, 75]⟩]).run Tryz.prog w = .ok (goInt 8) w' ∧
      w'.ownsRow base 5 1 (.slice (some ⟨g, 0, none⟩) n cap) n (bvs (splice L 0 signB)) ∧ Ch [g] w w' := by
  obtain ⟨cur, h1, h2, h3, h4, h5, h6, h7⟩ := own_block h
  have hi : (Tryz.prog.info? 5).map (·.size) = some 1 := by kernel_rfl
  have hr := Lib.run_copy_row_string (P := Tryz.prog) w 45 9 ty 5 g 0 n cap ⟨#[72, 65, 86, 69, 82, 83, 65, 75]⟩ cur.toArray 5 Tryz.underlying45 hi h1 (by simp [ByteArray.size]; omega) (by simp [ByteArray.size]; omega)
  refine ⟨_, hr, ?_, ?_⟩
  · refine block_own (setRow_heap w g _ _ 5 _ h1) h2 h3 h4 ?_ ?_ ?_
    · simp [ByteArray.size, Lib.byteCells]; omega
    · show (splice cur 0 (bvs signB)).take n = _
      rw [splice_take _ _ _ _ (by simp [bvs, signB]; omega) (by omega), h6]
      simp only [bvs, splice_map]
    · rw [splice_length _ _ _ (by simp [signB]; omega)]; exact h7
  · exact ⟨rfl, rfl, rfl, by simp [World.setRow], fun k _ hk => setRow_other w g k _ (by simpa using hk)⟩

theorem splice_mid {α : Type} (P Z Q M : List α) (h : Z.length = M.length) (o : Nat) (ho : o = P.length) : splice (P ++ (Z ++ Q)) o M = P ++ (M ++ Q) := by
  subst ho
  unfold splice
  rw [List.take_left, List.append_assoc]
  congr 2
  rw [← List.append_assoc, ← h, ← List.length_append, List.drop_left]
theorem frame_splice (turn next : Nat) (B : List UInt8) (k : Nat) : splice (splice (splice (splice (List.replicate 32 0 ++ B) 0 signB) 8 (beN 8 turn)) 16 (beN 8 next)) 24 (beN 8 k) = signB ++ beN 8 turn ++ beN 8 next ++ beN 8 k ++ B := by
  have e : List.replicate 32 (0 : UInt8) ++ B = [] ++ (List.replicate 8 0 ++ (List.replicate 8 0 ++ (List.replicate 8 0 ++ (List.replicate 8 0 ++ B)))) := by
    simp only [← List.append_assoc, List.nil_append, List.replicate_append_replicate]
  rw [e, splice_mid [] _ _ signB (by simp [signB]) 0 rfl, List.nil_append, splice_mid signB _ _ (beN 8 turn) (by simp [beN_length]) 8 rfl,
    ← List.append_assoc, splice_mid (signB ++ beN 8 turn) _ _ (beN 8 next) (by simp [beN_length]) 16 (by simp [signB, beN_length]), ← List.append_assoc,
    splice_mid (signB ++ beN 8 turn ++ beN 8 next) _ _ (beN 8 k) (by simp [beN_length]) 24 (by simp [signB, beN_length])]
  simp only [List.append_assoc]

set_option maxRecDepth 100000 in
set_option maxHeartbeats 2000000 in
theorem frame_any (turn next : Nat) (A : Option Addr) (n c : Nat) (F : List Nat) (rs : List (List UInt8)) (w : World) (h : Recs w F A n c rs) (hn : n ≤ 1000000) (ht : turn < 18446744073709551616) (hx : next < 18446744073709551616) (hb : (bodyB rs).length ≤ 1000000000000) :
    Calls Tryz.prog 123 #[.int .u64 (turn : Int), .int .u64 (next : Int), .slice A n c] w fun e w' => ∃ v, e = .returned v ∧ OwnB w.heap.size (frameB turn next rs) w' v ∧ Ch [] w w' := by
  have hl := h.len
  obtain ⟨w1, hmk, how, hc1⟩ := make_bytes 32 w (by omega)
  rw [show ((32 : Nat) : Int) = 32 from rfl] at hmk
  go_enter Tryz.func123, Tryz.ntmps123
  go_wp2_with fail
  clear hmk
  go_loopw [7, 14] (fun v i wr => ∃ k : Nat, k ≤ n ∧ i = .int .i64 k ∧ wr.ownsRow w.heap.size 5 1 v (32 + (bodyB (rs.take k)).length) (bvs (List.replicate 32 0 ++ bodyB (rs.take k))) ∧ Ch [] w wr) (fun _ i _ => n - (intOf i).toNat)
  case atStart => exact ⟨0, by omega, rfl, by simpa [bodyB] using how, hc1⟩
  case round =>
    clear how hc1
    obtain ⟨k, hk, rfl, ho, hch⟩ := hrel
    obtain ⟨wA, hwA⟩ : ∃ W, W = wr := ⟨_, rfl⟩
    subst hwA
    by_cases hlt : k < n
    · obtain ⟨b, o, A', n', c', rfl, hc, hrd, hrF, hn'⟩ := h.at0 k (by omega)
      have hc := hch.cell hc (by simp)
      obtain ⟨g, cap, rfl, hg1, hg2⟩ := own_form ho (by omega)
      have hsn : bodyB (rs.take (k + 1)) = bodyB (rs.take k) ++ (beN 4 n' ++ rs[k]'(by omega)) := by rw [List.take_succ_eq_append_getElem (by omega), bodyB_snoc, hn']
      have hle := bodyB_take_le rs (k + 1)
      rw [hsn] at hle
      simp only [List.length_append, beN_length] at hle
      have hcu : IntKind.u64.wrap (n' : Int) = (n' : Int) := by rw [IntKind.wrap_u64]; omega
      have hsA := hch.size
      have hl4 : (rs[k]'(by omega)).length = n' := hn'.symm
      have hp := put_any wA.heap.size 0 4 4 n' 219 [.int .u8 0, .int .u8 0, .int .u8 0, .int .u8 0] (wA.alloc (.cells #[.int .u8 0, .int .u8 0, .int .u8 0, .int .u8 0] 219)) (heap_alloc_new _ _) (by simp) (by omega) (by omega)
      have Hsn := Lib.hid hsn
      have Hl4 := Lib.hid hl4
      clear hsn hn' hl4
      generalize hr : rs[k]'(by omega) = r at *
      clear hr
      go_wp2_with fail
      refine hp.mono ?_
      rintro e w2 ⟨rfl, hb2, hc2⟩
      have hcA2 : Ch [] wA w2 := ((Ch.refl [] wA).alloc _).trans hc2 (by simp)
      have hcw2 := hch.trans hcA2 (by simp)
      have ho2 := own_keep ho hcA2 (by simp)
      have hs2 := hcA2.size
      have hrd4 : Rd 1 w2 (some ⟨wA.heap.size, 0, none⟩) 4 4 (bvs (beN 4 n')) := by
        refine ⟨by rw [bvs_length, beN_length], Nat.le_refl _, by unfold maxLen; omega, fun _ => ⟨_, 0, rfl, fun j u hu => ?_⟩⟩
        rw [Nat.zero_add]
        refine cell_at hb2 j ?_
        have hj : j < 4 := by have := (List.getElem?_eq_some_iff.1 hu).1; rw [bvs_length, beN_length] at this; exact this
        have e := splice_get [Value.int .u8 0, .int .u8 0, .int .u8 0, .int .u8 0] 0 (bvs (beN 4 n')) j (by rw [bvs_length, beN_length]; simp)
        rw [if_pos (by rw [bvs_length, beN_length]; omega), Nat.sub_zero, hu] at e
        simpa using e
      have hr1 := hrd.keep hcw2 (by simp)
      have hq := Hl4.out
      have HQ := Lib.hid hq
      clear hq hp hb2 hc2 ho
      generalize hB : bodyB (rs.take k) = B at *
      clear hB
      have hmx : 32 + B.length + 4 + n' ≤ 1000000000036 := by rw [← HQ.out]; omega
      have hge3 : ∀ k, (Value.slice (some ⟨g, 0, none⟩) (32 + B.length) cap).ownBlock = some k → w.heap.size ≤ k := by
        intro k hk
        simp only [Value.ownBlock, Option.some.injEq] at hk
        omega
      have HG := Lib.hid hge3
      clear hge3
      go_wp2_with (first
        | (at_builtin; refine app_rd rfl (.tmp 23) (.tmp 24) 45 5 (.int .u8 0) 1 1 (by decide) rfl Tryz.underlying45 Tryz.info5 rfl _ _ _ (bvs (beN 4 n')) _ 4 4 rfl rfl (bvs_one _) ho2 hrd4 (by omega) (by omega) (by unfold maxLen; omega) ?_; intro v3 w3 h3 hgr3 hat3; have hc3 := hcw2.grown hgr3 (fun k hk => .inr (HG.out k hk)); have hr3 := hrd.keep hc3 (by simp); have hs3 := hc3.size; clear ho2 hrd4 hgr3 hat3)
        | (at_builtin; refine app_rd rfl (.tmp 25) (.tmp 26) 45 5 (.int .u8 0) 1 1 (by decide) rfl Tryz.underlying45 Tryz.info5 rfl _ _ _ (bvs r) _ _ _ rfl rfl (bvs_one _) h3 hr3 hs3 (by omega) (by unfold maxLen; omega) ?_; intro v4 w4 h4 hgr4 hat4; have hc4 := hc3.grown hgr4 (fun k hk => .inr (own_ge h3 k hk)); clear hr3 hgr4 hat4)
        | fail)
      have e1 : 32 + (bodyB (rs.take (k + 1))).length = 32 + B.length + 4 + n' := by rw [Hsn.out, List.length_append, List.length_append, beN_length, HQ.out]; omega
      have e2 : bvs (List.replicate 32 0 ++ bodyB (rs.take (k + 1))) = bvs (List.replicate 32 0 ++ B) ++ bvs (beN 4 n') ++ bvs r := by rw [Hsn.out]; simp only [bvs_append, List.append_assoc]
      refine ⟨⟨k + 1, by omega, by go_num, by rw [e1, e2]; exact h4, hc4⟩, ?_⟩
      simp [intOf]
      omega
    · obtain rfl : k = n := by omega
      rw [List.take_of_length_le (by omega)] at ho
      clear hlt hk
      have hfs := frame_splice turn next (bodyB rs) (bodyB rs).length
      generalize hB : bodyB rs = B at *
      have HB := Lib.hid hB
      have HF := Lib.hid hfs
      clear hB hfs
      obtain ⟨g, cap, rfl, hg1, hg2⟩ := own_form ho (by omega)
      obtain ⟨cur, _, _, hcap1, hcap2, _⟩ := own_block ho
      unfold maxLen at hcap2
      obtain ⟨w5, hcopy, h5, hc5⟩ := copy_sign ho (by omega) 3
      have hcw5 := hch.trans hc5 (by simp; omega)
      clear ho
      go_wp2_with (first | (with_reducible refine Lib.wpList_copy_run _ rfl _ _ _ _ rfl _ _ rfl rfl hcopy ?_) | fail)
      refine (put_row g 8 8 (cap - 8) cap _ turn w.heap.size _ w5 h5 (by omega) (by omega) ht).mono ?_
      rintro e w6 ⟨rfl, h6, hc6⟩
      clear hcopy h5
      go_wp2_with fail
      refine (put_row g 16 8 (cap - 16) cap _ next w.heap.size _ w6 h6 (by omega) (by omega) hx).mono ?_
      rintro e w7 ⟨rfl, h7, hc7⟩
      clear h6
      have hcu : IntKind.u64.wrap (32 + (B.length : Int) - 32) = (B.length : Int) := by rw [IntKind.wrap_u64]; omega
      go_wp2_with fail
      refine (put_row g 24 8 (cap - 24) cap _ B.length w.heap.size _ w7 h7 (by omega) (by omega) (by omega)).mono ?_
      rintro e w8 ⟨rfl, h8, hc8⟩
      clear h7
      rw [HF.out] at h8
      have hlen : (frameB turn next rs).length = 32 + B.length := by unfold frameB; rw [HB.out]; simp [signB, beN_length]; omega
      have hfr : signB ++ beN 8 turn ++ beN 8 next ++ beN 8 B.length ++ B = frameB turn next rs := by unfold frameB; rw [HB.out]
      rw [hfr] at h8
      have HL := Lib.hid hlen
      clear hlen hfr
      go_wp2_with fail
      go_ret
      refine ⟨_, rfl, ⟨some ⟨g, 0, none⟩, cap, by rw [HL.out]; rfl, by rw [HL.out]; exact h8⟩, ?_⟩
      exact ((hcw5.trans hc6 (by simp; omega)).trans hc7 (by simp; omega)).trans hc8 (by simp; omega)

end Go.Proofs.YtbkncfedahifkaaGreat

/-
  Package wal: undo of nothing; lay.
-/
set_option linter.unusedVariables false
set_option linter.unusedSimpArgs false
namespace Go.Proofs.YtbkncfedahifkaaGreat
open Go.RowKit Go.Maps Go.MapKept Go.ChangeMaps

theorem clear_undone {w : World} {m N : Nat} {D : DataW Value} (ty : TypeId) (h : w.ownsMap Tryz.prog 3 selfR m N D) :
    ∃ w', (Builtin.clear_ #[144] ty #[.map (some m)]).run Tryz.prog w = .ok (.tuple #[]) w' ∧ w'.ownsMap Tryz.prog 3 selfR m 0 (.map []) ∧ w.grownBy w' (some m) := by
  obtain ⟨es, clock, hb, F, hsz, rfl⟩ := h
  refine ⟨setBlock w m (.map #[] clock), ?_, ⟨#[], clock, heap_setBlock_same hb _, ⟨by simp, stamped_empty clock, by simp⟩, Nat.le_refl _, rfl⟩, ⟨rfl, rfl, rfl, by simp [setBlock], fun i _ hi => heap_setBlock_other hb _ (fun e => hi (by rw [e]))⟩⟩
  simp [Builtin.clear_, run_underlying Tryz.underlying144, MapKept.run_getObj_map hb, MapKept.run_setObj_map _ hb, Result.andThen, setBlock]

theorem wundo {w : World} {lb um b g m n sz turn next at_ count : Nat} {X : List Nat} {R : Nat → List UInt8} (h : LogS w lb um b g m X n sz R turn next at_ count) :
    Calls Tryz.prog 145 #[.pointer (some ⟨lb, 0, none⟩)] w fun e w' => e = .returned (.int .i64 0) ∧ w = w' := by
  have h5 := cell_at h.cells 5 rfl
  have hm := h.map
  go_enter Tryz.func145, Tryz.ntmps145
  go_wp2_with (first | (at_len; refine wpList_len_own _ rfl _ 144 rfl 3 127 Tryz.underlying144 selfR um 0 (.map []) rfl hm ?_) | fail)
  go_ret
  exact ⟨rfl, rfl⟩

/-- The first k bytes copied over the head of a row. -/
theorem copy_row {w : World} {base g n cap : Nat} {L : List UInt8} (h : w.ownsRow base 5 1 (.slice (some ⟨g, 0, none⟩) n cap) n (bvs L)) (A : Option Addr) (k c S : Nat) (l : List UInt8) (hr : RdB w A k c l) (hS : S ≤ n) (ty : TypeId) :
    ∃ v w', (Builtin.copy_ #[45, 45] ty #[.slice (some ⟨g, 0, none⟩) S cap, .slice A k c]).run Tryz.prog w = .ok v w' ∧
      w'.ownsRow base 5 1 (.slice (some ⟨g, 0, none⟩) n cap) n (bvs (splice L 0 (l.take S))) ∧ Ch [g] w w' := by
  obtain ⟨cur, h1, h2, h3, h4, h5, h6, h7⟩ := own_block h
  have hi : (Tryz.prog.info? 5).map (·.size) = some 1 := by kernel_rfl
  have hkl := hr.length
  by_cases h0 : min k S = 0
  · have hr2 := run_copy_none (P := Tryz.prog) w 45 45 ty 5 (some ⟨g, 0, none⟩) A S cap k c Tryz.underlying45 hi h0
    refine ⟨_, w, hr2, ?_, Ch.refl _ _⟩
    have e : l.take S = [] := List.eq_nil_of_length_eq_zero (by rw [List.length_take]; omega)
    rw [e, splice_nil _ _ (by omega)]
    exact h
  · obtain ⟨b, o, rfl, hc⟩ := hr.cell (by omega)
    have hlt : (bvs (l.take S)).length = min k S := by rw [bvs_length, List.length_take, hkl]; omega
    have hr2 := run_copy_row (P := Tryz.prog) w 45 45 ty 5 g 0 S cap ⟨b, o, none⟩ k c cur.toArray 5 (bvs (l.take S)) Tryz.underlying45 hi h1 hlt
      (fun j v hv => by
        rw [Addr.add_lit]
        have hj : j < min k S := by rw [← hlt]; exact (List.getElem?_eq_some_iff.1 hv).1
        have := hc j (by omega)
        rw [this]
        rw [bvs_get, List.getElem?_take, if_pos (by omega), List.getElem?_eq_getElem (by omega)] at hv
        exact hv)
      (by simp; omega) (bvs_one _)
    refine ⟨_, _, hr2, ?_, ?_⟩
    · refine block_own (setRow_heap w g _ _ 5 _ h1) h2 h3 h4 ?_ ?_ ?_
      · simp [hlt]; omega
      · show (splice cur 0 (bvs (l.take S))).take n = _
        rw [splice_take _ _ _ _ (by rw [hlt]; omega) (by omega), h6]
        simp only [bvs, splice_map]
      · rw [splice_length _ _ _ (by rw [List.length_take]; omega)]; exact h7
    · exact ⟨rfl, rfl, rfl, by simp [World.setRow], fun k _ hk => setRow_other w g k _ (by simpa using hk)⟩

/-- A frame's sector. -/
def secB (S turn next : Nat) (B : List UInt8) (i : Nat) : List UInt8 :=
  let p := (B.drop (i * S)).take S
  p ++ List.replicate (S - p.length) 0 ++ if i = 0 then beN 8 turn ++ beN 8 (next + 1) else List.replicate 16 0
/-- What a disk reads as once the sectors from j on are laid. -/
def layR (R : Nat → List UInt8) (S turn next fr k : Nat) (B : List UInt8) (j : Nat) : Nat → List UInt8 := fun s => if fr + j ≤ s ∧ s < fr + k then secB S turn next B (s - fr) else R s
theorem layR_top (R : Nat → List UInt8) (S turn next fr k : Nat) (B : List UInt8) : layR R S turn next fr k B k = R := by
  funext s
  unfold layR
  rw [if_neg (by omega)]
theorem layR_step (R : Nat → List UInt8) (S turn next fr k : Nat) (B : List UInt8) (i : Nat) (hi : i < k) : upd (layR R S turn next fr k B (i + 1)) (fr + i) (secB S turn next B i) = layR R S turn next fr k B i := by
  funext s
  unfold upd layR
  by_cases e : s = fr + i
  · subst e
    rw [if_pos rfl, if_pos (by omega)]
    congr 1
    omega
  · rw [if_neg e]
    by_cases h : fr + (i + 1) ≤ s ∧ s < fr + k
    · rw [if_pos h, if_pos (by omega)]
    · rw [if_neg h, if_neg (by omega)]
theorem splice_head (S z : Nat) (p : List UInt8) (hp : p.length ≤ S) (hz : S + 16 = z) : splice (List.replicate z (0 : UInt8)) 0 p = p ++ List.replicate (S - p.length) 0 ++ List.replicate 16 0 := by
  unfold splice
  rw [List.take_zero, List.nil_append, Nat.zero_add, List.drop_replicate, List.append_assoc, List.replicate_append_replicate]
  congr 2
  omega
theorem splice_ends (S turn next : Nat) (p : List UInt8) (hp : p.length ≤ S) : splice (splice (p ++ List.replicate (S - p.length) 0 ++ List.replicate 16 0) S (beN 8 turn)) (S + 8) (beN 8 next) = p ++ List.replicate (S - p.length) 0 ++ (beN 8 turn ++ beN 8 next) := by
  have e : p ++ List.replicate (S - p.length) (0 : UInt8) ++ List.replicate 16 0 = (p ++ List.replicate (S - p.length) 0) ++ (List.replicate 8 0 ++ (List.replicate 8 0 ++ [])) := by
    rw [List.append_nil, List.replicate_append_replicate]
  have hl : (p ++ List.replicate (S - p.length) (0 : UInt8)).length = S := by simp; omega
  rw [e, splice_mid _ _ _ (beN 8 turn) (by simp [beN_length]) S hl.symm, ← List.append_assoc, splice_mid _ _ _ (beN 8 next) (by simp [beN_length]) (S + 8) (by rw [List.length_append, hl, beN_length])]
  simp [List.append_assoc]
theorem secB_length (S turn next : Nat) (B : List UInt8) (i : Nat) : (secB S turn next B i).length = S + 16 := by
  unfold secB
  simp only [List.length_append, List.length_replicate, List.length_take]
  split <;> simp [beN_length] <;> omega

theorem from_eq (turn n a : Nat) (hn : n ≤ 4096) (ha : a ≤ 4096) : wrap64 (wrap64 ((turn : Int) % 2 * ((n : Int) / 2)) + (a : Int)) = ((turn % 2 * (n / 2) + a : Nat) : Int) := by
  have hm1 : turn % 2 * (n / 2) ≤ 1 * (n / 2) := Nat.mul_le_mul_right _ (by omega)
  have e1 : (turn : Int) % 2 * ((n : Int) / 2) = ((turn % 2 * (n / 2) : Nat) : Int) := by rw [Int.natCast_mul, Int.natCast_emod, Int.natCast_ediv]; rfl
  rw [e1]
  have h3 : turn % 2 * (n / 2) ≤ 2048 := by omega
  clear hm1 e1
  generalize turn % 2 * (n / 2) = z at *
  have e2 : wrap64 (z : Int) = (z : Int) := IntWalk.wrap64_in _ ⟨by omega, by omega⟩
  rw [e2, IntWalk.wrap64_in _ ⟨by omega, by omega⟩]
  omega

set_option maxRecDepth 100000 in
set_option maxHeartbeats 4000000 in
theorem lay_any (w : World) (lb um b g m n sz T N a0 cnt : Nat) (X : List Nat) (R : Nat → List UInt8) (h : LogS w lb um b g m X n sz R T N a0 cnt) (hX : ∀ x ∈ X, x < w.heap.size) (turn next a : Nat) (A : Option Addr) (bn bc : Nat) (B : List UInt8) (hr : RdB w A bn bc B)
    (hrF : ∀ ad, A = some ad → ad.block ∉ [b, g, m, um]) (ht : turn < 18446744073709551616) (hx : next < 9223372036854775808) (hbn : 0 < bn) (hb2 : bn ≤ 1000000000000) (hfit : a + secsN (sz - 16) bn ≤ n / 2) :
    Calls Tryz.prog 122 #[.pointer (some ⟨lb, 0, none⟩), .int .u64 (turn : Int), .int .u64 (next : Int), .int .i64 (a : Int), .slice A bn bc] w fun e w' => e = .returned (.int .i64 0) ∧
      LogS w' lb um b g m X n sz (layR R (sz - 16) turn next (turn % 2 * (n / 2) + a) (secsN (sz - 16) bn) B 0) T N a0 cnt ∧ Ch [b, g, m, um] w w' := by
  have hb := h.bds
  have hhalf := whalf w h
  have hundo := wundo h
  go_enter Tryz.func122, Tryz.ntmps122
  go_wp2_with fail
  refine hhalf.mono ?_
  rintro e w' ⟨rfl, rfl⟩
  go_wp2_with fail
  have hfr := from_eq turn n a hb.2.1 (by omega)
  have hfrn : turn % 2 * (n / 2) + a + secsN (sz - 16) bn ≤ n := by
    have h2 : turn % 2 * (n / 2) ≤ 1 * (n / 2) := Nat.mul_le_mul_right _ (by omega)
    omega
  rw [hfr]
  generalize hfe : turn % 2 * (n / 2) + a = fr at *
  have HFE := Lib.hid hfe
  clear hfe hfr
  refine hundo.mono ?_
  rintro e w' ⟨rfl, rfl⟩
  have hsec := wsectors bn w h hb2
  have hkpos : 1 ≤ secsN (sz - 16) bn := by
    unfold secsN
    have hd := Nat.div_add_mod bn (sz - 16)
    rcases Nat.eq_zero_or_pos (bn / (sz - 16)) with hz | hz
    · rw [hz, Nat.mul_zero, Nat.zero_add] at hd
      rw [hd]
      omega
    · omega
  have hkS : ∀ i, i < secsN (sz - 16) bn → i * (sz - 16) ≤ bn := by
    intro i hi
    have h1 := Nat.div_mul_le_self bn (sz - 16)
    have h2 : i ≤ bn / (sz - 16) := by unfold secsN at hi; omega
    exact Nat.le_trans (Nat.mul_le_mul_right _ h2) h1
  have HkS := Lib.hid hkS
  clear hkS hhalf hundo
  go_wp2_with fail
  refine hsec.mono ?_
  rintro e w1 ⟨rfl, hc1⟩
  have h1 := h.nil hc1
  have hr1 := hr.keep hc1 (by simp)
  have hs1 := hc1.size
  clear hsec
  generalize hk : secsN (sz - 16) bn = k at *
  generalize hSe : sz - 16 = S at *
  have hS1 : S + 16 ≤ sz := by omega
  have hS2 : sz ≤ S + 16 := by omega
  have hS3 : S ≤ sz := by omega
  have HSE := Lib.hid hSe
  have HK2 := Lib.hid hk
  clear hSe hk
  have hcl := h1.cells
  have hout := h1.live.outs
  simp only [List.mem_cons, not_or] at hout
  obtain ⟨hbg, hbm, hgm, ⟨hbl, hbu, hbX⟩, ⟨hgl, hgu, hgX⟩, hml, hmu, hmX⟩ := hout
  have hlu := h1.lu
  have hlive : Live w1 b g m (lb :: um :: X) n sz (layR R S turn next fr k B k) := by rw [layR_top]; exact h1.live
  have hmap := h1.map
  go_wp2_with fail
  go_loopw [13] (fun i wr => ∃ (j : Nat) (v : Int), j ≤ k ∧ i = .int .i64 v ∧ v = (j : Int) - 1 ∧ Live wr b g m (lb :: um :: X) n sz (layR R S turn next fr k B j) ∧ Ch [b, g, m, um] w1 wr ∧ (0 < j → wr.ownsMap Tryz.prog 3 selfR um 0 (.map [])) ∧ ∃ q Dm, wr.ownsMap Tryz.prog 3 selfR um q Dm)
    (fun i _ => (intOf i + 1).toNat)
  case atStart => exact ⟨k, _, Nat.le_refl _, rfl, rfl, hlive, Ch.refl _ _, fun _ => hmap, 0, _, hmap⟩
  case round =>
    clear hlive hmap
    obtain ⟨j, v, hj, rfl, hv, hlive, hch, hm0, q, Dm, hmq⟩ := hrel
    obtain ⟨wA, hwA⟩ : ∃ W, W = wr := ⟨_, rfl⟩
    subst hwA
    have hclA := hch.at_ hcl (by simp; omega)
    have hsA := hch.size
    have hlA0 := cell_at hclA 0 rfl
    have hlA5 := cell_at hclA 5 rfl
    rcases j with _ | i
    · obtain rfl : v = -1 := by omega
      have hfl := live_flush_any b g m _ n sz _ wA hlive
      clear hm0 hv
      go_wp2_with fail
      refine hfl.mono ?_
      rintro e w2 ⟨rfl, hl2, hc2⟩
      have hcl2 := hc2.at_ hclA (by simp; omega)
      have hl25 := cell_at hcl2 5 rfl
      have hmq2 : w2.ownsMap Tryz.prog 3 selfR um q Dm := by
        obtain ⟨es, clock, hbk, F, hs, hD⟩ := hmq
        exact ⟨es, clock, hc2.at_ hbk (by simp; omega), F, hs, hD⟩
      obtain ⟨w3, hrun, hown, hgr⟩ := clear_undone 0 hmq2
      have hc3 : Ch [um] w2 w3 := (Ch.refl _ _).grown hgr (by intro x hx; cases hx; exact .inl (by simp))
      have hl3 := hl2.keep (hc3.mono (G := lb :: um :: X) (by simp))
      go_wp2_with fail
      go_ret
      refine ⟨rfl, ?_, ((hc1.mono (G := [b, g, m, um]) (by simp)).trans hch (by intro x hx; exact .inl hx)).trans ((hc2.mono (G := [b, g, m, um]) (by simp)).trans hc3 (by simp)) (by intro x hx; exact .inl hx)⟩
      rw [HSE.out, HFE.out, HK2.out]
      exact { h1 with cells := hc3.at_ hcl2 (by simp; omega), map := hown, live := hl3 }
    · obtain rfl : v = (i : Int) := by omega
      have hmE := hm0 (by omega)
      have hin : fr + i < n := by omega
      have hiS := HkS.out i (by omega)
      have hsz := live_size b g m _ n sz _ wA hlive
      obtain ⟨w2, hmk, how2, hc2⟩ := make_bytes sz wA (by omega)
      have hl2 := hlive.nil hc2
      have hcl2 := hc2.at_ hclA (by simp)
      have hmE2 : w2.ownsMap Tryz.prog 3 selfR um 0 (.map []) := by
        obtain ⟨es, clock, hbk, F, hs, hD⟩ := hmE
        exact ⟨es, clock, hc2.at_ hbk (by simp), F, hs, hD⟩
      have hLS2 : LogS w2 lb um b g m X n sz (layR R S turn next fr k B (i + 1)) T N a0 cnt := { h1 with cells := hcl2, map := hmE2, live := hl2 }
      have hz := wsize w2.drew (hLS2.nil (Ch.refl _ _).drew)
      have hz0 := wsize w2 hLS2
      rw [show ((sz - 16 : Nat) : Int) = (S : Int) from by omega] at hz
      have Hz := Lib.hid hz
      have hr2 : RdB w2 A bn bc B := (hr1.keep hch hrF).keep hc2 (by simp)
      obtain ⟨i0, hi0, hsz0⟩ := Option.map_eq_some_iff.1 Tryz.info5
      simp only [Prod.mk.injEq] at hsz0
      obtain ⟨p, hp⟩ : ∃ p, i * S = p := ⟨_, rfl⟩
      have hpZ : (i : Int) * (S : Int) = (p : Int) := by rw [← hp, Int.natCast_mul]
      rw [hp] at hiS
      obtain ⟨A', hcut0, hrd', hblk'⟩ := cut_from (P := Tryz.prog) 45 5 Tryz.underlying45 hi0 hsz0.2.1 A bn bc p hiS
      have hcut := hcut0 .i64
      have hrc : RdB w2 A' (bn - p) (bc - p) (B.drop p) := by have := hrd' w2 _ hr2; rwa [Nat.mul_one, bvs_drop] at this
      obtain ⟨vcp, w3, hcopy, how3, hc3⟩ := copy_row (own_keep how2 (Ch.refl [] w2).drew (by simp)) A' _ _ S (B.drop p) (hrc.keep (Ch.refl [] w2).drew (by simp)) (by omega) 3
      have hwp : IntKind.i64.wrap (p : Int) = (p : Int) := by rw [IntKind.wrap_i64]; omega
      have HP := Lib.hid hp
      clear hp hcut0
      have hxs := own_lt how2 _ rfl
      have HR := Lib.hid hrc
      clear hv hm0 hmE hmq hrd' hblk' hi0 hsz0 i0 hr2 hrc
      go_wp2_with fail
      refine hsz.mono ?_
      rintro e w' ⟨rfl, rfl⟩
      go_wp2_with fail
      refine dr_begin (by kernel_rfl) ?_
      have hT : True := trivial
      refine dr_take 0 (some 48) (v := ?_) rfl rfl (by kernel_rfl) (by kernel_rfl) (by kernel_rfl) (fun _ _ _ h => h) rfl hT (fun W _ => ?_) ?_
      rotate_left
      · (go_simp; try with_reducible rfl)
      try simp only [Act.put, List.setIfInBounds_toArray, List.set_cons_zero, List.set_cons_succ]
      refine dr_take 1 (some 49) (v := ?_) rfl rfl (by kernel_rfl) (by kernel_rfl) (by kernel_rfl) (fun _ _ _ h => h) rfl hT (fun W _ => ?_) ?_
      rotate_left
      · (go_simp; try with_reducible rfl)
      try simp only [Act.put, List.setIfInBounds_toArray, List.set_cons_zero, List.set_cons_succ]
      refine dr_take 4 (some 52) (v := ?_) rfl rfl (by kernel_rfl) (by kernel_rfl) (by kernel_rfl) (fun _ _ _ h => h) rfl hT (fun W _ => ?_) ?_
      rotate_left
      · (go_simp; try with_reducible rfl)
      try simp only [Act.put, List.setIfInBounds_toArray, List.set_cons_zero, List.set_cons_succ]
      refine dr_take 5 (some 53) (v := ?_) rfl rfl (by kernel_rfl) (by kernel_rfl) (by kernel_rfl) (fun _ _ _ h => h) rfl hT (fun W _ => ?_) ?_
      rotate_left
      · (go_simp; try with_reducible rfl)
      try simp only [Act.put, List.setIfInBounds_toArray, List.set_cons_zero, List.set_cons_succ]
      refine dr_take 6 (some 54) (v := ?_) rfl rfl (by kernel_rfl) (by kernel_rfl) (by kernel_rfl) (fun _ _ _ h => h) rfl hT (fun W _ => ?_) ?_
      rotate_left
      · (go_simp; try with_reducible rfl)
      try simp only [Act.put, List.setIfInBounds_toArray, List.set_cons_zero, List.set_cons_succ]
      refine dr_step 2 rfl (by kernel_rfl) rfl (fun K hK => ?_)
      go_simp
      refine Hz.out.mono ?_
      rintro e v ⟨rfl, rfl⟩
      refine hK.out _ _ hT ?_
      clear hK K
      try simp only [Act.put, List.setIfInBounds_toArray, List.set_cons_zero, List.set_cons_succ]
      refine dr_take 3 (some 51) (v := ?_) rfl rfl (by kernel_rfl) (by kernel_rfl) (by kernel_rfl) (fun _ _ _ h => h) rfl hT (fun W _ => ?_) ?_
      rotate_left
      · (go_simp; try with_reducible rfl)
      try simp only [Act.put, List.setIfInBounds_toArray, List.set_cons_zero, List.set_cons_succ]
      refine dr_step 7 rfl (by kernel_rfl) rfl (fun K hK => ?_)
      go_simp
      refine Hz.out.mono ?_
      rintro e v ⟨rfl, rfl⟩
      refine hK.out _ _ hT ?_
      clear hK K
      try simp only [Act.put, List.setIfInBounds_toArray, List.set_cons_zero, List.set_cons_succ]
      refine dr_take 8 (some 56) (v := ?_) rfl rfl (by kernel_rfl) (by kernel_rfl) (by kernel_rfl) (fun _ _ _ h => h) rfl hT (fun W _ => ?_) ?_
      rotate_left
      · (go_simp; try with_reducible rfl)
      try simp only [Act.put, List.setIfInBounds_toArray, List.set_cons_zero, List.set_cons_succ]
      refine dr_take 9 (some 57) (v := ?_) rfl rfl (by kernel_rfl) (by kernel_rfl) (by kernel_rfl) (fun _ _ _ h => h) rfl hT (fun W _ => ?_) ?_
      rotate_left
      · (go_simp; try with_reducible rfl)
      try simp only [Act.put, List.setIfInBounds_toArray, List.set_cons_zero, List.set_cons_succ]
      refine dr_step 10 rfl (by kernel_rfl) rfl (fun K hK => ?_)
      go_simp
      refine hK.out _ _ hT ?_
      clear hK K
      try simp only [Act.put, List.setIfInBounds_toArray, List.set_cons_zero, List.set_cons_succ]
      refine dr_done (by kernel_rfl) ?_
      have hcA3 : Ch [] wA w3 := ((Ch.refl [] wA).trans hc2 (by simp)).drew.trans hc3 (by simp)
      have hl3 := (hlive.add (x := wA.heap.size) (Nat.le_refl _)).nil hcA3
      have hcl3 := hcA3.at_ hclA (by simp)
      have hmE3 : w3.ownsMap Tryz.prog 3 selfR um 0 (.map []) := by
        obtain ⟨es, clock, hbk, F, hs, hD⟩ := hmE2
        exact ⟨es, clock, hc3.at_ hbk (by have := lt_of_at hcl; have := h1.map.lt; simp; omega), F, hs, hD⟩
      have hlb0 := cell_at hcl3 0 rfl
      have hlb5 := cell_at hcl3 5 rfl
      have hpl : ((B.drop p).take S).length ≤ S := by rw [List.length_take]; omega
      rw [splice_head S sz _ hpl (by omega)] at how3
      have hx3 : wA.heap.size < w3.heap.size := own_lt how3 _ rfl
      have hs3 := hcA3.size
      have hXl : ∀ y ∈ lb :: um :: X, y < wA.heap.size := by
        have := hc1.size
        have q1 := lt_of_at hcl
        have q2 := h1.map.lt
        intro y hy
        simp only [List.mem_cons] at hy
        rcases hy with e | e | e
        · omega
        · omega
        · have := hX y e; omega
      have hblt := hlive.lts
      clear hcopy hmk hcut hsz hz hz0 how2 hl2 hcl2 hmE2 hLS2 hlA0 hlA5
      generalize hxe : wA.heap.size = x at *
      have HX := Lib.hid hxe
      clear hxe
      have hXX : ∀ y ∈ x :: lb :: um :: X, y < w3.heap.size := by
        intro y hy
        rcases List.mem_cons.1 hy with e | e
        · omega
        · have := hXl y e; omega
      rcases i with _ | i
      · obtain rfl : p = 0 := by have := HP.out; omega
        rw [List.drop_zero] at how3 hpl
        have hLS3 : LogS w3 lb um b g m X n sz (layR R S turn next fr k B 1) T N a0 cnt := { h1 with cells := hcl3, map := hmE3, live := hl3.sub (by intro y hy; exact List.mem_cons_of_mem _ hy) }
        have hz3 := wsize w3 hLS3
        rw [show ((sz - 16 : Nat) : Int) = (S : Int) from by omega] at hz3
        have hS8 : S + 8 ≤ sz := by omega
        have hi0 : ((0 : Int) == 0) = true := rfl
        go_wp2_with fail
        refine hz3.mono ?_
        rintro e w' ⟨rfl, rfl⟩
        go_wp2_with fail
        refine hz3.mono ?_
        rintro e w' ⟨rfl, rfl⟩
        go_wp2_with fail
        refine (put_row x S 8 (sz - S) sz sz turn x _ w3 how3 (by omega) (by omega) ht).mono ?_
        rintro e w4 ⟨rfl, how4, hc4⟩
        have mkLS : ∀ W, Ch [x] w3 W → LogS W lb um b g m X n sz (layR R S turn next fr k B 1) T N a0 cnt := fun W hW => { h1 with
          cells := hW.at_ hcl3 (by have := hXl lb (by simp); simp; omega)
          map := by
            obtain ⟨es, clock, hbk, F, hs, hD⟩ := hmE3
            exact ⟨es, clock, hW.at_ hbk (by have := hXl um (by simp); simp; omega), F, hs, hD⟩
          live := (hl3.keep (hW.mono (by simp))).sub (by intro y hy; exact List.mem_cons_of_mem _ hy) }
        have hz4 := wsize w4 (mkLS w4 hc4)
        rw [show ((sz - 16 : Nat) : Int) = (S : Int) from by omega] at hz4
        have hn1 : ((next + 1 : Nat) : Int) = (next : Int) + 1 := by omega
        have hput2 := put_row x (S + 8) 8 (sz - (S + 8)) sz sz (next + 1) x _ w4 how4 (by omega) (by omega) (by omega)
        rw [splice_ends S turn (next + 1) _ hpl, hn1] at hput2
        have hlb04 := cell_at (mkLS w4 hc4).cells 0 rfl
        clear hz3 how4 how3 hn1
        go_wp2_with fail
        refine hz4.mono ?_
        rintro e w' ⟨rfl, rfl⟩
        go_wp2_with fail
        rw [show sz - (S + 8) = 8 from by omega] at hput2 ⊢
        refine hput2.mono ?_
        rintro e w5 ⟨rfl, how5, hc5⟩
        have hc35 : Ch [x] w3 w5 := hc4.trans hc5 (by intro y hy; exact .inl hy)
        have hLS5 := mkLS w5 hc35
        have hl5 := hl3.keep (hc35.mono (G := x :: lb :: um :: X) (by simp))
        have hlb05 := cell_at hLS5.cells 0 rfl
        have hlb55 := cell_at hLS5.cells 5 rfl
        have hfl5 := live_flush_any b g m _ n sz _ w5 hl5
        have hs35 := hc35.size
        clear hput2 hz4
        go_wp2_with fail
        refine hfl5.mono ?_
        rintro e w6 ⟨rfl, hl6, hc6⟩
        have hcl6 := hc6.at_ hLS5.cells (by simp; omega)
        have hlb06 := cell_at hcl6 0 rfl
        have hlb56 := cell_at hcl6 5 rfl
        have hmE6 : w6.ownsMap Tryz.prog 3 selfR um 0 (.map []) := by
          obtain ⟨es, clock, hbk, F, hs, hD⟩ := hLS5.map
          exact ⟨es, clock, hc6.at_ hbk (by simp; omega), F, hs, hD⟩
        obtain ⟨w7, hrun7, hown7, hgr7⟩ := hmE6.update ikeyed Tryz.underlying144 (by unfold maxLen; omega) (ikey_mk fr (by omega)) (val := .int .u64 (turn : Int)) rfl
        have hc7 : Ch [um] w6 w7 := (Ch.refl _ _).grown hgr7 (by intro y hy; cases hy; exact .inl (by simp))
        have hl7 := hl6.keep (hc7.mono (G := x :: lb :: um :: X) (by simp))
        have hcl7 := hc7.at_ hcl6 (by simp; omega)
        have hlb07 := cell_at hcl7 0 rfl
        have how7 := own_keep (own_keep how5 hc6 (by intro y hy; simp only [Value.ownBlock, Option.some.injEq] at hy; simp; omega)) hc7 (by intro y hy; simp only [Value.ownBlock, Option.some.injEq] at hy; have := hXl um (by simp); simp; omega)
        have hs6 := hc6.size
        have hs7 := hc7.size
        have hwr := live_write_any b g m _ n sz _ (fr + 0) _ sz _ w7 hl7 (by intro y hy; have := hXX y hy; omega) (own_rd how7) hin
        have hsc : (B.take S) ++ List.replicate (S - (B.take S).length) 0 ++ (beN 8 turn ++ beN 8 (next + 1)) = secB S turn next B 0 := by unfold secB; rw [Nat.zero_mul, List.drop_zero, if_pos rfl]
        rw [hsc, layR_step _ _ _ _ _ _ _ _ hj, Nat.add_zero] at hwr
        clear hsc how7 how5
        go_wp2_with fail
        refine hwr.mono ?_
        rintro e w8 ⟨rfl, hl8, hc8⟩
        have hown8 : ∃ D, w8.ownsMap Tryz.prog 3 selfR um 1 D := by
          obtain ⟨es, clock, hbk, F, hs, hD⟩ := hown7
          exact ⟨_, es, clock, hc8.at_ hbk (by simp; omega), F, hs, hD⟩
        have c1 : Ch [x, b, g, m, um] wA w3 := hcA3.mono (by simp)
        have c2 : Ch [x, b, g, m, um] w3 w5 := hc35.mono (by simp)
        have c3 : Ch [x, b, g, m, um] w5 w6 := hc6.mono (by simp)
        have c4 : Ch [x, b, g, m, um] w6 w7 := hc7.mono (by simp)
        have c5 : Ch [x, b, g, m, um] w7 w8 := hc8.mono (by simp)
        have cA := (((c1.trans' c2).trans' c3).trans' c4).trans' c5
        clear hwr
        go_wp2_with fail
        go_roundw
        case rel =>
          exact ⟨0, -1, by omega, rfl, by omega, hl8.sub (by intro y hy; exact List.mem_cons_of_mem _ hy), hch.trans cA (by intro y hy; simp at hy ⊢; omega), fun h => by omega, 1, hown8⟩
        case measure => simp [intOf]
      · have hwr := live_write_any b g m _ n sz _ (fr + (i + 1)) _ sz _ w3 hl3 hXX (own_rd how3) hin
        have hsc : (B.drop p).take S ++ List.replicate (S - ((B.drop p).take S).length) 0 ++ List.replicate 16 0 = secB S turn next B (i + 1) := by unfold secB; rw [HP.out, if_neg (by omega)]
        rw [hsc, layR_step _ _ _ _ _ _ _ _ hj] at hwr
        have hne : (((i + 1 : Nat) : Int) == 0) = false := by rw [beq_eq_false_iff_ne]; omega
        have hi1 : ((i + 1 : Nat) : Int) = (i : Int) + 1 := by omega
        rw [Int.natCast_add] at hwr
        clear hsc
        go_wp2_with fail
        refine hwr.mono ?_
        rintro e w4 ⟨rfl, hl4, hc4⟩
        have hmE4 : w4.ownsMap Tryz.prog 3 selfR um 0 (.map []) := by
          obtain ⟨es, clock, hbk, F, hs, hD⟩ := hmE3
          exact ⟨es, clock, hc4.at_ hbk (by simp; omega), F, hs, hD⟩
        clear hwr
        go_wp2_with fail
        go_roundw
        case rel => exact ⟨i + 1, _, by omega, rfl, by omega, hl4.sub (by intro y hy; exact List.mem_cons_of_mem _ hy), hch.trans ((hcA3.mono (G := [b, m]) (by simp)).trans hc4 (by intro y hy; exact .inl hy)) (by intro y hy; simp at hy ⊢; omega), fun _ => hmE4, 0, _, hmE4⟩
        case measure => simp [intOf]; omega

end Go.Proofs.YtbkncfedahifkaaGreat

/-
  Package wal: write, Commit, Reset.
-/
set_option linter.unusedVariables false
set_option linter.unusedSimpArgs false
namespace Go.Proofs.YtbkncfedahifkaaGreat
open Go.RowKit Go.Maps

theorem secsN_le (S k m : Nat) (hS : 0 < S) (h : k ≤ m * S) : secsN S k ≤ m := by
  have h1 := Nat.div_add_mod k S
  have h2 : k / S ≤ m := Nat.div_le_of_le_mul (by rwa [Nat.mul_comm])
  unfold secsN
  rcases Nat.lt_or_ge (k / S) m with h3 | h3
  · omega
  · have h4 : k / S = m := by omega
    rw [h4, Nat.mul_comm] at h1
    omega
theorem bodyB_cons (r : List UInt8) (rs : List (List UInt8)) : (bodyB (r :: rs)).length = 4 + r.length + (bodyB rs).length := by
  simp [bodyB, beN_length]
  omega
theorem bytesN_eq (all : Nat) (rs : List (List UInt8)) (h : 31 ≤ all) : bytesN all rs = min (32 + (bodyB rs).length) (all + 1) := by
  unfold bytesN
  have : ∀ (rs : List (List UInt8)) (a c : Nat), a = min c (all + 1) → rs.foldl (fun a r => min (a + 4 + r.length) (all + 1)) a = min (c + (bodyB rs).length) (all + 1) := by
    intro rs
    induction rs with
    | nil => intro a c ha; simpa [bodyB] using ha
    | cons r rs ih =>
      intro a c ha
      rw [List.foldl_cons, ih _ (c + 4 + r.length) (by omega), bodyB_cons]
      congr 1
      omega
  exact this rs 32 32 (by omega)
theorem frameB_length (turn next : Nat) (rs : List (List UInt8)) : (frameB turn next rs).length = 32 + (bodyB rs).length := by
  unfold frameB
  simp [signB, beN_length]
  omega

section
variable {lb um b g m n sz turn next at_ count : Nat} {X : List Nat} {R : Nat → List UInt8}
theorem LogS.room {w : World} (h : LogS w lb um b g m X n sz R turn next at_ count) (a : Nat) : (n / 2 - a) * (sz - 16) ≤ n * sz := Nat.mul_le_mul (by omega) (by omega)

set_option maxRecDepth 100000 in
theorem write_long (t N a : Nat) (A : Option Addr) (k c : Nat) (F : List Nat) (rs : List (List UInt8)) (w : World) (h : LogS w lb um b g m X n sz R turn next at_ count) (hr : Recs w F A k c rs) (hk : k ≤ 1000000) (hl : rs.any longB = true) :
    Calls Tryz.prog 86 #[.pointer (some ⟨lb, 0, none⟩), .int .u64 (t : Int), .int .u64 (N : Int), .int .i64 (a : Int), .slice A k c] w fun e w' => e = .returned (.tuple #[.int .i64 0, .int .i64 42]) ∧ w = w' := by
  have hc := wcontains A k c F rs w hr hk
  rw [hl] at hc
  clear hl
  go_enter Tryz.func86, Tryz.ntmps86
  go_wp2_with fail
  refine hc.mono ?_
  rintro e w' ⟨rfl, rfl⟩
  go_wp2_with fail
  go_ret2
  exact ⟨rfl, rfl⟩
set_option maxRecDepth 100000 in
theorem write_full (t N a : Nat) (A : Option Addr) (k c : Nat) (F : List Nat) (rs : List (List UInt8)) (w : World) (h : LogS w lb um b g m X n sz R turn next at_ count) (hr : Recs w F A k c rs) (hk : k ≤ 1000000) (hl : rs.any longB = false) (hlen : ∀ r ∈ rs, r.length ≤ 1000000000000)
    (ha : a ≤ n / 2) (hf : (n / 2 - a) * (sz - 16) < 32 + (bodyB rs).length) :
    Calls Tryz.prog 86 #[.pointer (some ⟨lb, 0, none⟩), .int .u64 (t : Int), .int .u64 (N : Int), .int .i64 (a : Int), .slice A k c] w fun e w' => e = .returned (.tuple #[.int .i64 0, .int .i64 40]) ∧ Ch [] w w' := by
  have hc := wcontains A k c F rs w hr hk
  have hb := h.bds
  have hall := h.room a
  have hall2 : 16 * 128 ≤ n * sz := Nat.mul_le_mul hb.1 hb.2.2.1
  have hby := wbytesN A k c F rs w h hr hk hlen
  have hlt : (n / 2 - a) * (sz - 16) < bytesN (n * sz) rs := by rw [bytesN_eq _ _ (by omega)]; omega
  have ht : decide (((bytesN (n * sz) rs : Nat) : Int) > (((n / 2 - a) * (sz - 16) : Nat) : Int)) = true := by simp; omega
  have ht2 : decide ((n / 2 - a) * (sz - 16) < bytesN (n * sz) rs) = true := by simp; omega
  have mkM := fun W (hW : Ch [] w W) => wmost a W (h.nil hW) ha
  rw [hl] at hc
  clear hl hall hall2 hf
  generalize bytesN (n * sz) rs = Y at *
  generalize (n / 2 - a) * (sz - 16) = Z at *
  have HM := Lib.hid mkM
  clear mkM
  go_enter Tryz.func86, Tryz.ntmps86
  go_wp2_with fail
  refine hc.mono ?_
  rintro e w' ⟨rfl, rfl⟩
  go_wp2_with fail
  refine hby.mono ?_
  rintro e w1 ⟨rfl, hc1⟩
  go_wp2_with fail
  refine (HM.out w1 hc1).mono ?_
  rintro e w' ⟨rfl, rfl⟩
  go_wp2_with fail
  go_ret2
  exact ⟨rfl, hc1⟩
set_option maxRecDepth 100000 in
set_option maxHeartbeats 1000000 in
theorem write_ok (t N a : Nat) (A : Option Addr) (k c : Nat) (F : List Nat) (rs : List (List UInt8)) (w : World) (h : LogS w lb um b g m X n sz R turn next at_ count) (hX : ∀ x ∈ X, x < w.heap.size) (hr : Recs w F A k c rs) (hk : k ≤ 1000000) (hl : rs.any longB = false) (hlen : ∀ r ∈ rs, r.length ≤ 1000000000000)
    (ht : t < 18446744073709551616) (hN : N < 9223372036854775808) (ha : a ≤ n / 2) (hf : 32 + (bodyB rs).length ≤ (n / 2 - a) * (sz - 16)) :
    Calls Tryz.prog 86 #[.pointer (some ⟨lb, 0, none⟩), .int .u64 (t : Int), .int .u64 (N : Int), .int .i64 (a : Int), .slice A k c] w fun e w' => e = .returned (.tuple #[.int .i64 ((a + secsN (sz - 16) (32 + (bodyB rs).length) : Nat) : Int), .int .i64 0]) ∧
      LogS w' lb um b g m X n sz (layR R (sz - 16) t N (t % 2 * (n / 2) + a) (secsN (sz - 16) (32 + (bodyB rs).length)) (frameB t N rs) 0) turn next at_ count ∧ a + secsN (sz - 16) (32 + (bodyB rs).length) ≤ n / 2 ∧ Ch [b, g, m, um] w w' := by
  have hc := wcontains A k c F rs w hr hk
  have hb := h.bds
  have hall := h.room a
  have hall2 : 16 * 128 ≤ n * sz := Nat.mul_le_mul hb.1 hb.2.2.1
  have hall3 : (n / 2 - a) * (sz - 16) ≤ 2048 * 4096 := Nat.mul_le_mul (by omega) (by omega)
  have hby := wbytesN A k c F rs w h hr hk hlen
  have hbe : bytesN (n * sz) rs = 32 + (bodyB rs).length := by rw [bytesN_eq _ _ (by omega)]; omega
  rw [hbe] at hby
  have hsec := secsN_le (sz - 16) _ _ (by omega) hf
  have hfit : a + secsN (sz - 16) (32 + (bodyB rs).length) ≤ n / 2 := by omega
  have hsec2 : secsN (sz - 16) (32 + (bodyB rs).length) ≤ 2048 := by omega
  have hfl := frameB_length t N rs
  have hgt : decide (((32 + (bodyB rs).length : Nat) : Int) > (((n / 2 - a) * (sz - 16) : Nat) : Int)) = false := by simp; omega
  have hgt2 : decide ((n / 2 - a) * (sz - 16) < 32 + (bodyB rs).length) = false := by simp; omega
  have mkM := fun W (hW : Ch [] w W) => wmost a W (h.nil hW) ha
  have mkS := fun W (hW : Ch [] w W) => wsectors (32 + (bodyB rs).length) W (h.nil hW) (by omega)
  have mkF := fun W (hW : Ch [] w W) => frame_any t N A k c F rs W (hr.nil hW) hk ht (by omega) (by omega)
  have mkL : ∀ W, Ch [] w W → ∀ (A2 : Option Addr) (c2 : Nat), RdB W A2 (32 + (bodyB rs).length) c2 (frameB t N rs) → (∀ ad, A2 = some ad → ad.block ∉ [b, g, m, um]) → _ := fun W hW A2 c2 h1 h2 =>
    lay_any W lb um b g m n sz turn next at_ count X R (h.nil hW) (fun x hx => Nat.lt_of_lt_of_le (hX x hx) hW.size) t N a A2 (32 + (bodyB rs).length) c2 (frameB t N rs) h1 h2 ht hN (by omega) (by omega) hfit
  have hlt := h.live.lts
  have hum := h.map.lt
  have HM := Lib.hid mkM
  have HS := Lib.hid mkS
  have HF := Lib.hid mkF
  have HL := Lib.hid mkL
  have Hfl := Lib.hid hfl
  have Hfit := Lib.hid hfit
  rw [hl] at hc
  have hYb : 32 + (bodyB rs).length ≤ 2048 * 4096 := by omega
  clear hl hall hall2 hf mkM mkS mkF mkL hbe hfl hfit hsec hall3 hlen
  generalize hY : 32 + (bodyB rs).length = Y at *
  generalize hZ : (n / 2 - a) * (sz - 16) = Z at *
  generalize hV : secsN (sz - 16) Y = V at *
  have HV := Lib.hid hV
  have HY := Lib.hid hY
  clear hZ hV hY
  go_enter Tryz.func86, Tryz.ntmps86
  go_wp2_with fail
  refine hc.mono ?_
  rintro e w' ⟨rfl, rfl⟩
  go_wp2_with fail
  refine hby.mono ?_
  rintro e w1 ⟨rfl, hc1⟩
  clear hby
  go_wp2_with fail
  refine (HM.out w1 hc1).mono ?_
  rintro e w' ⟨rfl, rfl⟩
  go_wp2_with fail
  refine (HS.out w1 hc1).mono ?_
  rintro e w2 ⟨rfl, hc2⟩
  have hcw2 := hc1.trans hc2 (by simp)
  have hsum : (a : Int) + (V : Int) = ((a + V : Nat) : Int) := by omega
  have HSUM := Lib.hid hsum
  clear hsum
  go_wp2_with fail
  refine (HF.out w2 hcw2).mono ?_
  rintro e w3 ⟨v3, rfl, ho3, hc3⟩
  obtain ⟨A3, c3, rfl, hrow3⟩ := ho3
  have hcw3 := hcw2.trans hc3 (by simp)
  have hA3 : ∀ ad, A3 = some ad → ad.block ∉ [b, g, m, um] := by
    intro ad had hm
    have h1 : w2.heap.size ≤ ad.block := own_ge hrow3 ad.block (by rw [had]; rfl)
    have h2 := hcw2.size
    simp only [List.mem_cons, List.not_mem_nil, or_false] at hm
    omega
  have hrd3 := own_rd hrow3
  rw [Hfl.out] at hrd3
  rw [Hfl.out]
  clear hrow3
  go_wp2_with fail
  refine (HL.out w3 hcw3 A3 c3 hrd3 hA3).mono ?_
  rintro e w4 ⟨rfl, h4, hc4⟩
  go_wp2_with fail
  go_ret2
  refine ⟨congrArg (fun z => Ending.returned (.tuple #[.int .i64 z, .int .i64 0])) HSUM.out, ?_, Hfit.out, (hcw3.mono (G := [b, g, m, um]) (by simp)).trans hc4 (by intro y hy; exact .inl hy)⟩
  have := HY.out
  exact h4

/-- What a commit of records answers. -/
def commitE (n sz a : Nat) (rs : List (List UInt8)) : Int := if rs.any longB then 42 else if 32 + (bodyB rs).length ≤ (n / 2 - a) * (sz - 16) then 0 else 40
theorem commitE_zero {n sz a : Nat} {rs : List (List UInt8)} (h : commitE n sz a rs = 0) : rs.any longB = false ∧ 32 + (bodyB rs).length ≤ (n / 2 - a) * (sz - 16) := by
  unfold commitE at h
  cases hl : rs.any longB with
  | true => rw [hl] at h; simp at h
  | false =>
    rw [hl] at h
    refine ⟨rfl, ?_⟩
    by_cases h2 : 32 + (bodyB rs).length ≤ (n / 2 - a) * (sz - 16)
    · exact h2
    · simp [h2] at h
theorem write_bad (t N a : Nat) (A : Option Addr) (k c : Nat) (F : List Nat) (rs : List (List UInt8)) (w : World) (h : LogS w lb um b g m X n sz R turn next at_ count) (hr : Recs w F A k c rs) (hk : k ≤ 1000000) (hlen : ∀ r ∈ rs, r.length ≤ 1000000000000)
    (ha : a ≤ n / 2) (hf : commitE n sz a rs ≠ 0) :
    Calls Tryz.prog 86 #[.pointer (some ⟨lb, 0, none⟩), .int .u64 (t : Int), .int .u64 (N : Int), .int .i64 (a : Int), .slice A k c] w fun e w' => e = .returned (.tuple #[.int .i64 0, .int .i64 (commitE n sz a rs)]) ∧ Ch [] w w' := by
  unfold commitE at hf ⊢
  cases hl : rs.any longB with
  | true =>
    refine (write_long t N a A k c F rs w h hr hk hl).mono ?_
    rintro e w' ⟨rfl, rfl⟩
    exact ⟨rfl, Ch.refl _ _⟩
  | false =>
    rw [hl] at hf
    by_cases h2 : 32 + (bodyB rs).length ≤ (n / 2 - a) * (sz - 16)
    · simp [h2] at hf
    · simp only [h2, if_false]
      exact write_full t N a A k c F rs w h hr hk hl hlen ha (by omega)

theorem LogS.re {w w' : World} (h : LogS w lb um b g m X n sz R turn next at_ count) (hc : Ch [lb] w w') {turn' next' at' count' : Nat}
    (hcell : w'.heap[lb]? = some (.cells #[.pointer (some ⟨b, 0, none⟩), .int .u64 (turn' : Int), .int .u64 (next' : Int), .int .i64 (at' : Int), .int .i64 (count' : Int), .map (some um)] 146 (0, 0)))
    (h1 : turn' < 18446744073709551616) (h2 : next' < 18446744073709551616) (h3 : at' ≤ n / 2) (h4 : count' < 4611686018427387904) : LogS w' lb um b g m X n sz R turn' next' at' count' :=
  { h with
    cells := hcell
    map := by
      have hlu := h.lu
      obtain ⟨es, clock, hbk, F, hs, hD⟩ := h.map
      exact ⟨es, clock, hc.at_ hbk (by simp; omega), F, hs, hD⟩
    live := h.live.keep (hc.mono (by simp))
    turnB := h1
    nextB := h2
    atB := h3
    countB := h4 }

theorem wcommit_bad (A : Option Addr) (k c : Nat) (F : List Nat) (rs : List (List UInt8)) (w : World) (h : LogS w lb um b g m X n sz R turn next at_ count) (hr : Recs w F A k c rs) (hk : k ≤ 1000000) (hlen : ∀ r ∈ rs, r.length ≤ 1000000000000) (hf : commitE n sz at_ rs ≠ 0) :
    Calls Tryz.prog 54 #[.pointer (some ⟨lb, 0, none⟩), .slice A k c] w fun e w' => e = .returned (.int .i64 (commitE n sz at_ rs)) ∧ Ch [] w w' := by
  have hwr := write_bad turn next at_ A k c F rs w.drew (h.nil (Ch.refl _ _).drew) (hr.nil (Ch.refl _ _).drew) hk hlen h.atB hf
  have h1 := cell_at h.cells 1 rfl
  have h2 := cell_at h.cells 2 rfl
  have h3 := cell_at h.cells 3 rfl
  have hne : (commitE n sz at_ rs != 0) = true := by simpa using hf
  generalize commitE n sz at_ rs = E at *
  have HW := Lib.hid hwr
  clear hwr hf
  go_enter Tryz.func54, Tryz.ntmps54
  go_wp2_with fail
  refine dr_begin (by kernel_rfl) ?_
  refine dr_more (fun W => W.cell? ⟨lb, 1, none⟩ = some (.int .u64 (turn : Int)) ∧ W.cell? ⟨lb, 2, none⟩ = some (.int .u64 (next : Int)) ∧ W.cell? ⟨lb, 3, none⟩ = some (.int .i64 (at_ : Int))) ?_
  have hT : True ∧ (w.drew.cell? ⟨lb, 1, none⟩ = some (.int .u64 (turn : Int)) ∧ w.drew.cell? ⟨lb, 2, none⟩ = some (.int .u64 (next : Int)) ∧ w.drew.cell? ⟨lb, 3, none⟩ = some (.int .i64 (at_ : Int))) := ⟨trivial, h1, h2, h3⟩
  refine dr_take 0 (some 8) (v := ?_) rfl rfl (by kernel_rfl) (by kernel_rfl) (by kernel_rfl) (fun _ _ _ h => h) rfl hT (fun W _ => ?_) ?_
  rotate_left
  · (go_simp; try with_reducible rfl)
  try simp only [Act.put, List.setIfInBounds_toArray, List.set_cons_zero, List.set_cons_succ]
  refine dr_take 1 (some 9) (v := ?_) rfl rfl (by kernel_rfl) (by kernel_rfl) (by kernel_rfl) (fun _ _ _ h => h) rfl hT (fun W _ => ?_) ?_
  rotate_left
  · (go_simp; try with_reducible rfl)
  try simp only [Act.put, List.setIfInBounds_toArray, List.set_cons_zero, List.set_cons_succ]
  refine dr_take 2 (some 10) (v := ?_) rfl rfl (by kernel_rfl) (by kernel_rfl) (by kernel_rfl) (fun _ _ _ h => h) rfl hT (fun W _ => ?_) ?_
  rotate_left
  · (go_simp; try with_reducible rfl)
  try simp only [Act.put, List.setIfInBounds_toArray, List.set_cons_zero, List.set_cons_succ]
  refine dr_take 3 (some 11) (v := ?_) rfl rfl (by kernel_rfl) (by kernel_rfl) (by kernel_rfl) (fun _ _ _ h => h) rfl hT (fun W _ => ?_) ?_
  rotate_left
  · (go_simp; try with_reducible rfl)
  try simp only [Act.put, List.setIfInBounds_toArray, List.set_cons_zero, List.set_cons_succ]
  refine dr_take 4 (some 12) (v := ?_) rfl rfl (by kernel_rfl) (by kernel_rfl) (by kernel_rfl) (fun _ _ _ h => h) rfl hT (fun W hW => ?_) ?_
  rotate_left
  · (obtain ⟨-, h1, h2, h3⟩ := hW; go_simp; try with_reducible rfl)
  try simp only [Act.put, List.setIfInBounds_toArray, List.set_cons_zero, List.set_cons_succ]
  refine dr_take 5 (some 13) (v := ?_) rfl rfl (by kernel_rfl) (by kernel_rfl) (by kernel_rfl) (fun _ _ _ h => h) rfl hT (fun W _ => ?_) ?_
  rotate_left
  · (go_simp; try with_reducible rfl)
  try simp only [Act.put, List.setIfInBounds_toArray, List.set_cons_zero, List.set_cons_succ]
  refine dr_take 6 (some 14) (v := ?_) rfl rfl (by kernel_rfl) (by kernel_rfl) (by kernel_rfl) (fun _ _ _ h => h) rfl hT (fun W _ => ?_) ?_
  rotate_left
  · (go_simp; try with_reducible rfl)
  try simp only [Act.put, List.setIfInBounds_toArray, List.set_cons_zero, List.set_cons_succ]
  refine dr_take 7 (some 15) (v := ?_) rfl rfl (by kernel_rfl) (by kernel_rfl) (by kernel_rfl) (fun _ _ _ h => h) rfl hT (fun W _ => ?_) ?_
  rotate_left
  · (go_simp; try with_reducible rfl)
  try simp only [Act.put, List.setIfInBounds_toArray, List.set_cons_zero, List.set_cons_succ]
  refine dr_take 8 (some 16) (v := ?_) rfl rfl (by kernel_rfl) (by kernel_rfl) (by kernel_rfl) (fun _ _ _ h => h) rfl hT (fun W hW => ?_) ?_
  rotate_left
  · (obtain ⟨-, h1, h2, h3⟩ := hW; go_simp; try with_reducible rfl)
  try simp only [Act.put, List.setIfInBounds_toArray, List.set_cons_zero, List.set_cons_succ]
  refine dr_take 9 (some 17) (v := ?_) rfl rfl (by kernel_rfl) (by kernel_rfl) (by kernel_rfl) (fun _ _ _ h => h) rfl hT (fun W _ => ?_) ?_
  rotate_left
  · (go_simp; try with_reducible rfl)
  try simp only [Act.put, List.setIfInBounds_toArray, List.set_cons_zero, List.set_cons_succ]
  refine dr_take 10 (some 18) (v := ?_) rfl rfl (by kernel_rfl) (by kernel_rfl) (by kernel_rfl) (fun _ _ _ h => h) rfl hT (fun W _ => ?_) ?_
  rotate_left
  · (go_simp; try with_reducible rfl)
  try simp only [Act.put, List.setIfInBounds_toArray, List.set_cons_zero, List.set_cons_succ]
  refine dr_take 11 (some 19) (v := ?_) rfl rfl (by kernel_rfl) (by kernel_rfl) (by kernel_rfl) (fun _ _ _ h => h) rfl hT (fun W _ => ?_) ?_
  rotate_left
  · (go_simp; try with_reducible rfl)
  try simp only [Act.put, List.setIfInBounds_toArray, List.set_cons_zero, List.set_cons_succ]
  refine dr_take 12 (some 20) (v := ?_) rfl rfl (by kernel_rfl) (by kernel_rfl) (by kernel_rfl) (fun _ _ _ h => h) rfl hT (fun W hW => ?_) ?_
  rotate_left
  · (obtain ⟨-, h1, h2, h3⟩ := hW; go_simp; try with_reducible rfl)
  try simp only [Act.put, List.setIfInBounds_toArray, List.set_cons_zero, List.set_cons_succ]
  refine dr_take 13 (some 21) (v := ?_) rfl rfl (by kernel_rfl) (by kernel_rfl) (by kernel_rfl) (fun _ _ _ h => h) rfl hT (fun W _ => ?_) ?_
  rotate_left
  · (go_simp; try with_reducible rfl)
  try simp only [Act.put, List.setIfInBounds_toArray, List.set_cons_zero, List.set_cons_succ]
  refine dr_step 14 rfl (by kernel_rfl) rfl (fun K hK => ?_)
  go_simp
  refine HW.out.mono ?_
  rintro e w2 ⟨rfl, hc2⟩
  have hT : True ∧ (w2.cell? ⟨lb, 1, none⟩ = some (.int .u64 (turn : Int)) ∧ w2.cell? ⟨lb, 2, none⟩ = some (.int .u64 (next : Int)) ∧ w2.cell? ⟨lb, 3, none⟩ = some (.int .i64 (at_ : Int))) := ⟨trivial, hc2.cell h1 (by simp), hc2.cell h2 (by simp), hc2.cell h3 (by simp)⟩
  refine hK.out _ _ hT ?_
  clear hK K
  try simp only [Act.put, List.setIfInBounds_toArray, List.set_cons_zero, List.set_cons_succ]
  refine dr_take 15 (some 7) (v := ?_) rfl rfl (by kernel_rfl) (by kernel_rfl) (by kernel_rfl) (fun _ _ _ h => h) rfl hT (fun W _ => ?_) ?_
  rotate_left
  · (go_simp; try with_reducible rfl)
  try simp only [Act.put, List.setIfInBounds_toArray, List.set_cons_zero, List.set_cons_succ]
  refine dr_take 16 (some 23) (v := ?_) rfl rfl (by kernel_rfl) (by kernel_rfl) (by kernel_rfl) (fun _ _ _ h => h) rfl hT (fun W _ => ?_) ?_
  rotate_left
  · (go_simp; try with_reducible rfl)
  try simp only [Act.put, List.setIfInBounds_toArray, List.set_cons_zero, List.set_cons_succ]
  refine dr_take 17 (some 24) (v := ?_) rfl rfl (by kernel_rfl) (by kernel_rfl) (by kernel_rfl) (fun _ _ _ h => h) rfl hT (fun W _ => ?_) ?_
  rotate_left
  · (go_simp; try with_reducible rfl)
  try simp only [Act.put, List.setIfInBounds_toArray, List.set_cons_zero, List.set_cons_succ]
  refine dr_take 18 (some 5) (v := ?_) rfl rfl (by kernel_rfl) (by kernel_rfl) (by kernel_rfl) (fun _ _ _ h => h) rfl hT (fun W _ => ?_) ?_
  rotate_left
  · (go_simp; try with_reducible rfl)
  try simp only [Act.put, List.setIfInBounds_toArray, List.set_cons_zero, List.set_cons_succ]
  refine dr_take 19 (some 6) (v := ?_) rfl rfl (by kernel_rfl) (by kernel_rfl) (by kernel_rfl) (fun _ _ _ h => h) rfl hT (fun W _ => ?_) ?_
  rotate_left
  · (go_simp; try with_reducible rfl)
  try simp only [Act.put, List.setIfInBounds_toArray, List.set_cons_zero, List.set_cons_succ]
  refine dr_done (by kernel_rfl) ?_
  go_wp2_with fail
  go_ret
  exact ⟨rfl, (Ch.refl _ _).drew.trans hc2 (by simp)⟩

set_option maxRecDepth 100000 in
set_option maxHeartbeats 1000000 in
theorem wcommit_ok (A : Option Addr) (k c : Nat) (F : List Nat) (rs : List (List UInt8)) (w : World) (h : LogS w lb um b g m X n sz R turn next at_ count) (hX : ∀ x ∈ X, x < w.heap.size) (hr : Recs w F A k c rs) (hk : k ≤ 1000000) (hlen : ∀ r ∈ rs, r.length ≤ 1000000000000) (hf : commitE n sz at_ rs = 0)
    (hN : next < 4611686018427387904) (hC : count < 4000000000000000000) :
    Calls Tryz.prog 54 #[.pointer (some ⟨lb, 0, none⟩), .slice A k c] w fun e w' => e = .returned (.int .i64 0) ∧
      LogS w' lb um b g m X n sz (layR R (sz - 16) turn next (turn % 2 * (n / 2) + at_) (secsN (sz - 16) (32 + (bodyB rs).length)) (frameB turn next rs) 0) turn (next + 1) (at_ + secsN (sz - 16) (32 + (bodyB rs).length)) (count + rs.length) ∧ Ch [lb, b, g, m, um] w w' := by
  obtain ⟨hf1, hf2⟩ := commitE_zero hf
  have hwr := write_ok turn next at_ A k c F rs w.drew (h.nil (Ch.refl _ _).drew) hX (hr.nil (Ch.refl _ _).drew) hk hf1 hlen h.turnB (by omega) h.atB hf2
  have hrl := hr.len
  have h1 := cell_at h.cells 1 rfl
  have h2 := cell_at h.cells 2 rfl
  have h3 := cell_at h.cells 3 rfl
  have hlu := h.lu
  have hout := h.live.outs
  simp only [List.mem_cons, not_or] at hout
  generalize hVe : secsN (sz - 16) (32 + (bodyB rs).length) = V at *
  generalize hRe : layR R (sz - 16) turn next (turn % 2 * (n / 2) + at_) V (frameB turn next rs) 0 = R2 at *
  have HW := Lib.hid hwr
  clear hwr hf hf1 hf2 hVe hRe
  go_enter Tryz.func54, Tryz.ntmps54
  go_wp2_with fail
  refine dr_begin (by kernel_rfl) ?_
  refine dr_more (fun W => W.cell? ⟨lb, 1, none⟩ = some (.int .u64 (turn : Int)) ∧ W.cell? ⟨lb, 2, none⟩ = some (.int .u64 (next : Int)) ∧ W.cell? ⟨lb, 3, none⟩ = some (.int .i64 (at_ : Int))) ?_
  have hT : True ∧ (w.drew.cell? ⟨lb, 1, none⟩ = some (.int .u64 (turn : Int)) ∧ w.drew.cell? ⟨lb, 2, none⟩ = some (.int .u64 (next : Int)) ∧ w.drew.cell? ⟨lb, 3, none⟩ = some (.int .i64 (at_ : Int))) := ⟨trivial, h1, h2, h3⟩
  refine dr_take 0 (some 8) (v := ?_) rfl rfl (by kernel_rfl) (by kernel_rfl) (by kernel_rfl) (fun _ _ _ h => h) rfl hT (fun W _ => ?_) ?_
  rotate_left
  · (go_simp; try with_reducible rfl)
  try simp only [Act.put, List.setIfInBounds_toArray, List.set_cons_zero, List.set_cons_succ]
  refine dr_take 1 (some 9) (v := ?_) rfl rfl (by kernel_rfl) (by kernel_rfl) (by kernel_rfl) (fun _ _ _ h => h) rfl hT (fun W _ => ?_) ?_
  rotate_left
  · (go_simp; try with_reducible rfl)
  try simp only [Act.put, List.setIfInBounds_toArray, List.set_cons_zero, List.set_cons_succ]
  refine dr_take 2 (some 10) (v := ?_) rfl rfl (by kernel_rfl) (by kernel_rfl) (by kernel_rfl) (fun _ _ _ h => h) rfl hT (fun W _ => ?_) ?_
  rotate_left
  · (go_simp; try with_reducible rfl)
  try simp only [Act.put, List.setIfInBounds_toArray, List.set_cons_zero, List.set_cons_succ]
  refine dr_take 3 (some 11) (v := ?_) rfl rfl (by kernel_rfl) (by kernel_rfl) (by kernel_rfl) (fun _ _ _ h => h) rfl hT (fun W _ => ?_) ?_
  rotate_left
  · (go_simp; try with_reducible rfl)
  try simp only [Act.put, List.setIfInBounds_toArray, List.set_cons_zero, List.set_cons_succ]
  refine dr_take 4 (some 12) (v := ?_) rfl rfl (by kernel_rfl) (by kernel_rfl) (by kernel_rfl) (fun _ _ _ h => h) rfl hT (fun W hW => ?_) ?_
  rotate_left
  · (obtain ⟨-, h1, h2, h3⟩ := hW; go_simp; try with_reducible rfl)
  try simp only [Act.put, List.setIfInBounds_toArray, List.set_cons_zero, List.set_cons_succ]
  refine dr_take 5 (some 13) (v := ?_) rfl rfl (by kernel_rfl) (by kernel_rfl) (by kernel_rfl) (fun _ _ _ h => h) rfl hT (fun W _ => ?_) ?_
  rotate_left
  · (go_simp; try with_reducible rfl)
  try simp only [Act.put, List.setIfInBounds_toArray, List.set_cons_zero, List.set_cons_succ]
  refine dr_take 6 (some 14) (v := ?_) rfl rfl (by kernel_rfl) (by kernel_rfl) (by kernel_rfl) (fun _ _ _ h => h) rfl hT (fun W _ => ?_) ?_
  rotate_left
  · (go_simp; try with_reducible rfl)
  try simp only [Act.put, List.setIfInBounds_toArray, List.set_cons_zero, List.set_cons_succ]
  refine dr_take 7 (some 15) (v := ?_) rfl rfl (by kernel_rfl) (by kernel_rfl) (by kernel_rfl) (fun _ _ _ h => h) rfl hT (fun W _ => ?_) ?_
  rotate_left
  · (go_simp; try with_reducible rfl)
  try simp only [Act.put, List.setIfInBounds_toArray, List.set_cons_zero, List.set_cons_succ]
  refine dr_take 8 (some 16) (v := ?_) rfl rfl (by kernel_rfl) (by kernel_rfl) (by kernel_rfl) (fun _ _ _ h => h) rfl hT (fun W hW => ?_) ?_
  rotate_left
  · (obtain ⟨-, h1, h2, h3⟩ := hW; go_simp; try with_reducible rfl)
  try simp only [Act.put, List.setIfInBounds_toArray, List.set_cons_zero, List.set_cons_succ]
  refine dr_take 9 (some 17) (v := ?_) rfl rfl (by kernel_rfl) (by kernel_rfl) (by kernel_rfl) (fun _ _ _ h => h) rfl hT (fun W _ => ?_) ?_
  rotate_left
  · (go_simp; try with_reducible rfl)
  try simp only [Act.put, List.setIfInBounds_toArray, List.set_cons_zero, List.set_cons_succ]
  refine dr_take 10 (some 18) (v := ?_) rfl rfl (by kernel_rfl) (by kernel_rfl) (by kernel_rfl) (fun _ _ _ h => h) rfl hT (fun W _ => ?_) ?_
  rotate_left
  · (go_simp; try with_reducible rfl)
  try simp only [Act.put, List.setIfInBounds_toArray, List.set_cons_zero, List.set_cons_succ]
  refine dr_take 11 (some 19) (v := ?_) rfl rfl (by kernel_rfl) (by kernel_rfl) (by kernel_rfl) (fun _ _ _ h => h) rfl hT (fun W _ => ?_) ?_
  rotate_left
  · (go_simp; try with_reducible rfl)
  try simp only [Act.put, List.setIfInBounds_toArray, List.set_cons_zero, List.set_cons_succ]
  refine dr_take 12 (some 20) (v := ?_) rfl rfl (by kernel_rfl) (by kernel_rfl) (by kernel_rfl) (fun _ _ _ h => h) rfl hT (fun W hW => ?_) ?_
  rotate_left
  · (obtain ⟨-, h1, h2, h3⟩ := hW; go_simp; try with_reducible rfl)
  try simp only [Act.put, List.setIfInBounds_toArray, List.set_cons_zero, List.set_cons_succ]
  refine dr_take 13 (some 21) (v := ?_) rfl rfl (by kernel_rfl) (by kernel_rfl) (by kernel_rfl) (fun _ _ _ h => h) rfl hT (fun W _ => ?_) ?_
  rotate_left
  · (go_simp; try with_reducible rfl)
  try simp only [Act.put, List.setIfInBounds_toArray, List.set_cons_zero, List.set_cons_succ]
  refine dr_step 14 rfl (by kernel_rfl) rfl (fun K hK => ?_)
  go_simp
  refine HW.out.mono ?_
  rintro e w2 ⟨rfl, hL2, hfit, hc2⟩
  have hT : True ∧ (w2.cell? ⟨lb, 1, none⟩ = some (.int .u64 (turn : Int)) ∧ w2.cell? ⟨lb, 2, none⟩ = some (.int .u64 (next : Int)) ∧ w2.cell? ⟨lb, 3, none⟩ = some (.int .i64 (at_ : Int))) := ⟨trivial, cell_at hL2.cells 1 rfl, cell_at hL2.cells 2 rfl, cell_at hL2.cells 3 rfl⟩
  refine hK.out _ _ hT ?_
  clear hK K
  try simp only [Act.put, List.setIfInBounds_toArray, List.set_cons_zero, List.set_cons_succ]
  refine dr_take 15 (some 7) (v := ?_) rfl rfl (by kernel_rfl) (by kernel_rfl) (by kernel_rfl) (fun _ _ _ h => h) rfl hT (fun W _ => ?_) ?_
  rotate_left
  · (go_simp; try with_reducible rfl)
  try simp only [Act.put, List.setIfInBounds_toArray, List.set_cons_zero, List.set_cons_succ]
  refine dr_take 16 (some 23) (v := ?_) rfl rfl (by kernel_rfl) (by kernel_rfl) (by kernel_rfl) (fun _ _ _ h => h) rfl hT (fun W _ => ?_) ?_
  rotate_left
  · (go_simp; try with_reducible rfl)
  try simp only [Act.put, List.setIfInBounds_toArray, List.set_cons_zero, List.set_cons_succ]
  refine dr_take 17 (some 24) (v := ?_) rfl rfl (by kernel_rfl) (by kernel_rfl) (by kernel_rfl) (fun _ _ _ h => h) rfl hT (fun W _ => ?_) ?_
  rotate_left
  · (go_simp; try with_reducible rfl)
  try simp only [Act.put, List.setIfInBounds_toArray, List.set_cons_zero, List.set_cons_succ]
  refine dr_take 18 (some 5) (v := ?_) rfl rfl (by kernel_rfl) (by kernel_rfl) (by kernel_rfl) (fun _ _ _ h => h) rfl hT (fun W _ => ?_) ?_
  rotate_left
  · (go_simp; try with_reducible rfl)
  try simp only [Act.put, List.setIfInBounds_toArray, List.set_cons_zero, List.set_cons_succ]
  refine dr_take 19 (some 6) (v := ?_) rfl rfl (by kernel_rfl) (by kernel_rfl) (by kernel_rfl) (fun _ _ _ h => h) rfl hT (fun W _ => ?_) ?_
  rotate_left
  · (go_simp; try with_reducible rfl)
  try simp only [Act.put, List.setIfInBounds_toArray, List.set_cons_zero, List.set_cons_succ]
  refine dr_done (by kernel_rfl) ?_
  have q3 := free_at hL2.cells 3
  have q2 := free_at hL2.cells 2
  have q4 := free_at hL2.cells 4
  have c2 := cell_at hL2.cells 2 rfl
  have c3 := cell_at hL2.cells 3 rfl
  have c4 := cell_at hL2.cells 4 rfl
  have a1 := heap_setCell_same w2 lb 3 _ 146 (.int .i64 ((at_ : Int) + (V : Int))) hL2.cells
  have a2 := heap_setCell_same _ lb 2 _ 146 (.int .u64 ((next : Int) + 1)) a1
  have a3 := heap_setCell_same _ lb 4 _ 146 (.int .i64 ((count : Int) + (k : Int))) a2
  have hcs : Ch [lb] w2 (((w2.setCell ⟨lb, 3, none⟩ (.int .i64 ((at_ : Int) + (V : Int)))).setCell ⟨lb, 2, none⟩ (.int .u64 ((next : Int) + 1))).setCell ⟨lb, 4, none⟩ (.int .i64 ((count : Int) + (k : Int)))) := (((Ch.refl _ _).setCell _ _ (by simp)).setCell _ _ (by simp)).setCell _ _ (by simp)
  have hfin := hL2.re hcs (turn' := turn) (next' := next + 1) (at' := at_ + V) (count' := count + rs.length) (by rw [Int.natCast_add, Int.natCast_add, Int.natCast_add, hrl]; simpa using a3) h.turnB (by omega) hfit (by have := h.countB; omega)
  have Hfin := Lib.hid hfin
  clear hfin a1 a2 a3
  go_wp2_with fail
  go_ret
  refine ⟨rfl, Hfin.out, ?_⟩
  exact (((Ch.refl [lb, b, g, m, um] w).drew).trans hc2 (by intro y hy; left; simp at hy ⊢; omega)).trans hcs (by simp)

theorem wreset_bad (A : Option Addr) (k c : Nat) (F : List Nat) (rs : List (List UInt8)) (w : World) (h : LogS w lb um b g m X n sz R turn next at_ count) (hr : Recs w F A k c rs) (hk : k ≤ 1000000) (hlen : ∀ r ∈ rs, r.length ≤ 1000000000000) (hf : commitE n sz 0 rs ≠ 0) (hT : turn < 4611686018427387904) :
    Calls Tryz.prog 87 #[.pointer (some ⟨lb, 0, none⟩), .slice A k c] w fun e w' => e = .returned (.int .i64 (commitE n sz 0 rs)) ∧ Ch [] w w' := by
  have hwr := write_bad (turn + 1) 0 0 A k c F rs w h hr hk hlen (by omega) hf
  have h1 := cell_at h.cells 1 rfl
  have hne : (commitE n sz 0 rs != 0) = true := by simpa using hf
  rw [show ((turn + 1 : Nat) : Int) = (turn : Int) + 1 from by omega, show ((0 : Nat) : Int) = 0 from rfl] at hwr
  generalize commitE n sz 0 rs = E at *
  have HW := Lib.hid hwr
  clear hwr hf
  go_enter Tryz.func87, Tryz.ntmps87
  go_wp2_with fail
  refine HW.out.mono ?_
  rintro e w2 ⟨rfl, hc2⟩
  go_wp2_with fail
  go_ret
  exact ⟨rfl, hc2⟩

set_option maxRecDepth 100000 in
set_option maxHeartbeats 1000000 in
theorem wreset_ok (A : Option Addr) (k c : Nat) (F : List Nat) (rs : List (List UInt8)) (w : World) (h : LogS w lb um b g m X n sz R turn next at_ count) (hX : ∀ x ∈ X, x < w.heap.size) (hr : Recs w F A k c rs) (hk : k ≤ 1000000) (hlen : ∀ r ∈ rs, r.length ≤ 1000000000000) (hf : commitE n sz 0 rs = 0)
    (hTn : turn < 4611686018427387904) :
    Calls Tryz.prog 87 #[.pointer (some ⟨lb, 0, none⟩), .slice A k c] w fun e w' => e = .returned (.int .i64 0) ∧
      LogS w' lb um b g m X n sz (layR R (sz - 16) (turn + 1) 0 ((turn + 1) % 2 * (n / 2) + 0) (secsN (sz - 16) (32 + (bodyB rs).length)) (frameB (turn + 1) 0 rs) 0) (turn + 1) 1 (0 + secsN (sz - 16) (32 + (bodyB rs).length)) rs.length ∧ Ch [lb, b, g, m, um] w w' := by
  obtain ⟨hf1, hf2⟩ := commitE_zero hf
  have hwr := write_ok (turn + 1) 0 0 A k c F rs w h hX hr hk hf1 hlen (by omega) (by omega) (by omega) hf2
  have hrl := hr.len
  have h1 := cell_at h.cells 1 rfl
  have hlu := h.lu
  have hout := h.live.outs
  simp only [List.mem_cons, not_or] at hout
  generalize hVe : secsN (sz - 16) (32 + (bodyB rs).length) = V at *
  generalize hRe : layR R (sz - 16) (turn + 1) 0 ((turn + 1) % 2 * (n / 2) + 0) V (frameB (turn + 1) 0 rs) 0 = R2 at *
  rw [show ((turn + 1 : Nat) : Int) = (turn : Int) + 1 from by omega, show ((0 : Nat) : Int) = 0 from rfl, Nat.zero_add] at hwr
  rw [Nat.zero_add]
  have HW := Lib.hid hwr
  clear hwr hf hf1 hf2 hVe hRe
  go_enter Tryz.func87, Tryz.ntmps87
  go_wp2_with fail
  refine HW.out.mono ?_
  rintro e w2 ⟨rfl, hL2, hfit, hc2⟩
  have q1 := free_at hL2.cells 1
  have q2 := free_at hL2.cells 2
  have q3 := free_at hL2.cells 3
  have q4 := free_at hL2.cells 4
  have c1 := cell_at hL2.cells 1 rfl
  have c2 := cell_at hL2.cells 2 rfl
  have c3 := cell_at hL2.cells 3 rfl
  have c4 := cell_at hL2.cells 4 rfl
  have a1 := heap_setCell_same w2 lb 1 _ 146 (.int .u64 ((turn : Int) + 1)) hL2.cells
  have a2 := heap_setCell_same _ lb 2 _ 146 (.int .u64 1) a1
  have a3 := heap_setCell_same _ lb 3 _ 146 (.int .i64 (V : Int)) a2
  have a4 := heap_setCell_same _ lb 4 _ 146 (.int .i64 (k : Int)) a3
  have hcs : Ch [lb] w2 ((((w2.setCell ⟨lb, 1, none⟩ (.int .u64 ((turn : Int) + 1))).setCell ⟨lb, 2, none⟩ (.int .u64 1)).setCell ⟨lb, 3, none⟩ (.int .i64 (V : Int))).setCell ⟨lb, 4, none⟩ (.int .i64 (k : Int))) := ((((Ch.refl _ _).setCell _ _ (by simp)).setCell _ _ (by simp)).setCell _ _ (by simp)).setCell _ _ (by simp)
  have hfin := hL2.re hcs (turn' := turn + 1) (next' := 1) (at' := V) (count' := rs.length) (by rw [Int.natCast_add, hrl]; simpa using a4) (by omega) (by omega) hfit (by omega)
  have Hfin := Lib.hid hfin
  clear hfin a1 a2 a3 a4
  go_wp2_with fail
  go_ret
  refine ⟨rfl, Hfin.out, ?_⟩
  exact ((Ch.refl [lb, b, g, m, um] w).trans hc2 (by intro y hy; left; simp at hy ⊢; omega)).trans hcs (by simp)
end

end Go.Proofs.YtbkncfedahifkaaGreat

/-
  Package wal: must, sector.
-/
set_option linter.unusedVariables false
set_option linter.unusedSimpArgs false
namespace Go.Proofs.YtbkncfedahifkaaGreat
open Go.RowKit Go.Maps

/-- What reading ends with, where a frame isn't whole. -/
def stopW : List PanicEntry := [{ v := .iface 186 (.agg #[.int .i64 0]), recovered := false }]
theorem wmust_yes (z : Int) (w : World) : Calls Tryz.prog 80 #[.bool true, .int .i64 z] w fun e w' => e = .returned (.tuple #[]) ∧ w = w' := by
  go_enter Tryz.func80, Tryz.ntmps80
  go_wp2
  go_end0
  exact ⟨rfl, rfl⟩
theorem wmust_no (w : World) : Calls Tryz.prog 80 #[.bool false, .int .i64 0] w fun e w' => e = .panicked stopW ∧ w = w' := by
  go_enter Tryz.func80, Tryz.ntmps80
  go_wp2
  exact ⟨rfl, rfl, rfl⟩

section
variable {lb um b g m n sz turn next at_ count : Nat} {X : List Nat} {R : Nat → List UInt8}
theorem wsector_no (side a : Nat) (w : World) (h : LogS w lb um b g m X n sz R turn next at_ count) (ha : n / 2 ≤ a) :
    Calls Tryz.prog 110 #[.pointer (some ⟨lb, 0, none⟩), .int .i64 (side : Int), .int .i64 (a : Int)] w fun e w' => e = .panicked stopW ∧ w = w' := by
  have hh := whalf w h
  have d1 : decide ((a : Int) < ((n / 2 : Nat) : Int)) = false := by simp; omega
  have d2 : decide (a < n / 2) = false := by simp; omega
  generalize n / 2 = H at *
  go_enter Tryz.func110, Tryz.ntmps110
  go_wp2_with fail
  refine hh.mono ?_
  rintro e w' ⟨rfl, rfl⟩
  go_wp2_with fail
  refine (wmust_no _).mono ?_
  rintro e w' ⟨rfl, rfl⟩
  exact ⟨rfl, rfl, rfl⟩
set_option maxRecDepth 100000 in
theorem wsector_yes (side a : Nat) (w : World) (h : LogS w lb um b g m X n sz R turn next at_ count) (hs : side < 2) (ha : a < n / 2) :
    Calls Tryz.prog 110 #[.pointer (some ⟨lb, 0, none⟩), .int .i64 (side : Int), .int .i64 (a : Int)] w fun e w' => ∃ x c, e = .returned (.slice (some ⟨x, 0, none⟩) sz c) ∧ w.heap.size ≤ x ∧ x < w'.heap.size ∧
      w'.ownsRow w.heap.size 5 1 (.slice (some ⟨x, 0, none⟩) sz c) sz (bvs (R (side * (n / 2) + a))) ∧ Ch [] w w' := by
  have hb := h.bds
  have hh := whalf w h
  have hh2 := whalf w.drew (h.nil (Ch.refl _ _).drew)
  have h0 := cell_at h.cells 0 rfl
  have hi : side * (n / 2) + a < n := by
    have : side * (n / 2) ≤ 1 * (n / 2) := Nat.mul_le_mul_right _ (by omega)
    omega
  have hrd := live_read b g m _ n sz R (side * (n / 2) + a) w.drew (h.live.nil (Ch.refl _ _).drew) hi
  have d1 : decide ((a : Int) < ((n / 2 : Nat) : Int)) = true := by simp; omega
  have d2 : decide (a < n / 2) = true := by simp; omega
  have hH : n / 2 ≤ 2048 := by omega
  have hw : wrap64 (wrap64 ((side : Int) * ((n / 2 : Nat) : Int)) + (a : Int)) = ((side * (n / 2) + a : Nat) : Int) := by
    have e1 : (side : Int) * ((n / 2 : Nat) : Int) = ((side * (n / 2) : Nat) : Int) := by rw [Int.natCast_mul]
    have hz : side * (n / 2) ≤ 1 * (n / 2) := Nat.mul_le_mul_right _ (by omega)
    rw [e1]
    generalize side * (n / 2) = z at *
    have e2 : wrap64 (z : Int) = (z : Int) := IntWalk.wrap64_in _ ⟨by omega, by omega⟩
    rw [e2, IntWalk.wrap64_in _ ⟨by omega, by omega⟩]
    omega
  have hw2 : IntKind.i64.wrap (IntKind.i64.wrap ((side : Int) * ((n / 2 : Nat) : Int)) + (a : Int)) = ((side * (n / 2) + a : Nat) : Int) := by
    have e1 : (side : Int) * ((n / 2 : Nat) : Int) = ((side * (n / 2) : Nat) : Int) := by rw [Int.natCast_mul]
    have hz : side * (n / 2) ≤ 1 * (n / 2) := Nat.mul_le_mul_right _ (by omega)
    rw [e1]
    generalize side * (n / 2) = z at *
    rw [IntKind.wrap_i64, IntKind.wrap_i64]
    omega
  generalize hHe : n / 2 = H at *
  generalize hIe : side * H + a = I at *
  have HH := Lib.hid hh2
  have HRD := Lib.hid hrd
  have HW := Lib.hid hw
  have HW2 := Lib.hid hw2
  clear hh2 hrd hw hw2 hHe hIe
  go_enter Tryz.func110, Tryz.ntmps110
  go_wp2_with fail
  refine hh.mono ?_
  rintro e w' ⟨rfl, rfl⟩
  go_wp2_with fail
  refine (wmust_yes _ _).mono ?_
  rintro e w' ⟨rfl, rfl⟩
  go_wp2_with fail
  refine dr_begin (by kernel_rfl) ?_
  refine dr_more (fun W => W.cell? ⟨lb, 0, none⟩ = some (.pointer (some ⟨b, 0, none⟩))) ?_
  have hT : True ∧ w.drew.cell? ⟨lb, 0, none⟩ = some (.pointer (some ⟨b, 0, none⟩)) := ⟨trivial, h0⟩
  refine dr_take 0 (some 15) (v := ?_) rfl rfl (by kernel_rfl) (by kernel_rfl) (by kernel_rfl) (fun _ _ _ h => h) rfl hT (fun W _ => ?_) ?_
  rotate_left
  · (go_simp; try with_reducible rfl)
  try simp only [Act.put, List.setIfInBounds_toArray, List.set_cons_zero, List.set_cons_succ]
  refine dr_take 1 (some 16) (v := ?_) rfl rfl (by kernel_rfl) (by kernel_rfl) (by kernel_rfl) (fun _ _ _ h => h) rfl hT (fun W _ => ?_) ?_
  rotate_left
  · (go_simp; try with_reducible rfl)
  try simp only [Act.put, List.setIfInBounds_toArray, List.set_cons_zero, List.set_cons_succ]
  refine dr_take 2 (some 17) (v := ?_) rfl rfl (by kernel_rfl) (by kernel_rfl) (by kernel_rfl) (fun _ _ _ h => h) rfl hT (fun W _ => ?_) ?_
  rotate_left
  · (go_simp; try with_reducible rfl)
  try simp only [Act.put, List.setIfInBounds_toArray, List.set_cons_zero, List.set_cons_succ]
  refine dr_take 3 (some 18) (v := ?_) rfl rfl (by kernel_rfl) (by kernel_rfl) (by kernel_rfl) (fun _ _ _ h => h) rfl hT (fun W hW => ?_) ?_
  rotate_left
  · (have h1 := hW.2; go_simp; try with_reducible rfl)
  try simp only [Act.put, List.setIfInBounds_toArray, List.set_cons_zero, List.set_cons_succ]
  refine dr_take 4 (some 19) (v := ?_) rfl rfl (by kernel_rfl) (by kernel_rfl) (by kernel_rfl) (fun _ _ _ h => h) rfl hT (fun W _ => ?_) ?_
  rotate_left
  · (go_simp; try with_reducible rfl)
  try simp only [Act.put, List.setIfInBounds_toArray, List.set_cons_zero, List.set_cons_succ]
  refine dr_take 5 (some 20) (v := ?_) rfl rfl (by kernel_rfl) (by kernel_rfl) (by kernel_rfl) (fun _ _ _ h => h) rfl hT (fun W _ => ?_) ?_
  rotate_left
  · (go_simp; try with_reducible rfl)
  try simp only [Act.put, List.setIfInBounds_toArray, List.set_cons_zero, List.set_cons_succ]
  refine dr_take 8 (some 23) (v := ?_) rfl rfl (by kernel_rfl) (by kernel_rfl) (by kernel_rfl) (fun _ _ _ h => h) rfl hT (fun W _ => ?_) ?_
  rotate_left
  · (go_simp; try with_reducible rfl)
  try simp only [Act.put, List.setIfInBounds_toArray, List.set_cons_zero, List.set_cons_succ]
  refine dr_step 6 rfl (by kernel_rfl) rfl (fun K hK => ?_)
  go_simp
  refine HH.out.mono ?_
  rintro e v ⟨rfl, rfl⟩
  refine hK.out _ _ hT ?_
  clear hK K
  try simp only [Act.put, List.setIfInBounds_toArray, List.set_cons_zero, List.set_cons_succ]
  refine dr_take 7 (some 22) (v := ?_) rfl rfl (by kernel_rfl) (by kernel_rfl) (by kernel_rfl) (fun _ _ _ h => h) rfl hT (fun W _ => ?_) ?_
  rotate_left
  · (go_simp; try with_reducible rfl)
  try simp only [Act.put, List.setIfInBounds_toArray, List.set_cons_zero, List.set_cons_succ]
  refine dr_take 9 (some 24) (v := ?_) rfl rfl (by kernel_rfl) (by kernel_rfl) (by kernel_rfl) (fun _ _ _ h => h) rfl hT (fun W _ => ?_) ?_
  rotate_left
  · (go_simp; try with_reducible rfl)
  try simp only [Act.put, List.setIfInBounds_toArray, List.set_cons_zero, List.set_cons_succ]
  refine dr_step 10 rfl (by kernel_rfl) rfl (fun K hK => ?_)
  go_simp
  (first | rw [HW.out] | rw [HW2.out])
  refine HRD.out.mono ?_
  rintro e w2 ⟨x, cx, rfl, hx1, hx2, hrow, hc2⟩
  have hT : True ∧ w2.cell? ⟨lb, 0, none⟩ = some (.pointer (some ⟨b, 0, none⟩)) := ⟨trivial, hc2.cell h0 (by simp)⟩
  refine hK.out _ _ hT ?_
  clear hK K
  try simp only [Act.put, List.setIfInBounds_toArray, List.set_cons_zero, List.set_cons_succ]
  refine dr_take 11 (some 14) (v := ?_) rfl rfl (by kernel_rfl) (by kernel_rfl) (by kernel_rfl) (fun _ _ _ h => h) rfl hT (fun W _ => ?_) ?_
  rotate_left
  · (go_simp; try with_reducible rfl)
  try simp only [Act.put, List.setIfInBounds_toArray, List.set_cons_zero, List.set_cons_succ]
  refine dr_take 12 (some 26) (v := ?_) rfl rfl (by kernel_rfl) (by kernel_rfl) (by kernel_rfl) (fun _ _ _ h => h) rfl hT (fun W _ => ?_) ?_
  rotate_left
  · (go_simp; try with_reducible rfl)
  try simp only [Act.put, List.setIfInBounds_toArray, List.set_cons_zero, List.set_cons_succ]
  refine dr_take 13 (some 27) (v := ?_) rfl rfl (by kernel_rfl) (by kernel_rfl) (by kernel_rfl) (fun _ _ _ h => h) rfl hT (fun W _ => ?_) ?_
  rotate_left
  · (go_simp; try with_reducible rfl)
  try simp only [Act.put, List.setIfInBounds_toArray, List.set_cons_zero, List.set_cons_succ]
  refine dr_take 14 (some 7) (v := ?_) rfl rfl (by kernel_rfl) (by kernel_rfl) (by kernel_rfl) (fun _ _ _ h => h) rfl hT (fun W _ => ?_) ?_
  rotate_left
  · (go_simp; try with_reducible rfl)
  try simp only [Act.put, List.setIfInBounds_toArray, List.set_cons_zero, List.set_cons_succ]
  refine dr_take 15 (some 8) (v := ?_) rfl rfl (by kernel_rfl) (by kernel_rfl) (by kernel_rfl) (fun _ _ _ h => h) rfl hT (fun W _ => ?_) ?_
  rotate_left
  · (go_simp; try with_reducible rfl)
  try simp only [Act.put, List.setIfInBounds_toArray, List.set_cons_zero, List.set_cons_succ]
  refine dr_done (by kernel_rfl) ?_
  go_wp2_with fail
  refine (wmust_yes _ _).mono ?_
  rintro e w' ⟨rfl, rfl⟩
  go_wp2_with fail
  go_ret
  exact ⟨x, cx, rfl, hx1, hx2, hrow, (Ch.refl _ _).drew.trans hc2 (by simp)⟩
end

end Go.Proofs.YtbkncfedahifkaaGreat

/-
  Package wal: what opening a frame comes to; rows of records of one's own; cuts.
-/
set_option linter.unusedVariables false
set_option linter.unusedSimpArgs false
namespace Go.Proofs.YtbkncfedahifkaaGreat
open Go.RowKit Go.Maps

/-- Records out of their bytes. -/
def recsP : Nat → List UInt8 → Option (List (List UInt8))
  | 0, _ => none
  | f + 1, l => if l = [] then some [] else if l.length < 4 then none else if deN (l.take 4) ≤ l.length - 4 then (recsP f (l.drop (4 + deN (l.take 4)))).map (((l.drop 4).take (deN (l.take 4))) :: ·) else none
/-- The bytes of so many sectors of a side, without their ends. -/
def secsB (R : Nat → List UInt8) (S fr k : Nat) : List UInt8 := (List.range k).flatMap fun i => (R (fr + i)).take S
theorem secsB_succ (R : Nat → List UInt8) (S fr k : Nat) : secsB R S fr (k + 1) = secsB R S fr k ++ (R (fr + k)).take S := by simp [secsB, List.range_succ]
theorem secsB_length (R : Nat → List UInt8) (S fr : Nat) : ∀ k, (∀ i, i < k → S ≤ (R (fr + i)).length) → (secsB R S fr k).length = k * S
  | 0, _ => by simp [secsB]
  | k + 1, h => by
    rw [secsB_succ, List.length_append, secsB_length R S fr k (fun i hi => h i (by omega)), List.length_take, Nat.min_eq_left (h k (by omega)), Nat.add_mul, Nat.one_mul]
/-- A frame, as it is read: its turn, its records, the sector behind it. -/
def openF (R : Nat → List UInt8) (n sz side a next : Nat) : Option (Nat × List (List UInt8) × Nat) :=
  let S := sz - 16
  let fr := side * (n / 2) + a
  let b := (R fr).take S
  let e := (R fr).drop S
  let t := deN ((b.drop 8).take 8)
  let m := deN ((b.drop 24).take 8)
  if a < n / 2 ∧ b.take 8 = signB ∧ deN ((b.drop 16).take 8) = next ∧ deN (e.take 8) = t ∧ deN (e.drop 8) = next + 1 ∧ m + 32 ≤ (n / 2 - a) * S then
    (recsP (m + 1) (((secsB R S fr (secsN S (32 + m))).drop 32).take m)).map fun rs => (t, rs, a + secsN S (32 + m))
  else none

/-- A record that lies in a block of one's own, besides the row of a slice v. -/
def RowO (w : World) (base : Nat) (v u : Value) (l : List UInt8) : Prop := ∃ A n c, u = .slice A n c ∧ RdB w A n c l ∧ ∀ a, A = some a → base ≤ a.block ∧ a.block < w.heap.size ∧ v.ownBlock ≠ some a.block
/-- Records of one's own, in a slice of one's own. -/
def RowsO (w : World) (base : Nat) (v : Value) (rs : List (List UInt8)) : Prop := ∃ vs, w.ownsRow base 45 1 v rs.length vs ∧ ∀ (i : Nat) (h : i < rs.length), ∃ u, vs[i]? = some u ∧ RowO w base v u rs[i]
theorem RowO.keep {w w' : World} {base : Nat} {v u : Value} {l : List UInt8} (h : RowO w base v u l) {F : List Nat} (hc : Ch F w w') (hF : ∀ x ∈ F, x < base ∨ w.heap.size ≤ x) : RowO w' base v u l := by
  obtain ⟨A, n, c, rfl, h1, h2⟩ := h
  exact ⟨A, n, c, rfl, h1.keep hc (fun a ha hg => by have := h2 a ha; have := hF _ hg; omega), fun a ha => ⟨(h2 a ha).1, Nat.lt_of_lt_of_le (h2 a ha).2.1 hc.size, (h2 a ha).2.2⟩⟩
theorem RowsO.keep {w w' : World} {base : Nat} {v : Value} {rs : List (List UInt8)} (h : RowsO w base v rs) {F : List Nat} (hc : Ch F w w') (hF : ∀ x ∈ F, x < base ∨ w.heap.size ≤ x) : RowsO w' base v rs := by
  obtain ⟨vs, h1, h2⟩ := h
  refine ⟨vs, own_keep h1 hc (fun k hk hg => by have := own_ge h1 k hk; have := own_lt h1 k hk; have := hF _ hg; omega), fun i hi => ?_⟩
  obtain ⟨u, q1, q2⟩ := h2 i hi
  exact ⟨u, q1, q2.keep hc hF⟩
theorem RowsO.nil {w w' : World} {base : Nat} {v : Value} {rs : List (List UInt8)} (h : RowsO w base v rs) (hc : Ch [] w w') : RowsO w' base v rs := h.keep hc (by simp)
theorem RowsO.empty (w : World) (base : Nat) : RowsO w base (.slice none 0 0) [] := ⟨[], World.ownsRow_nil _ _ _ _, fun i hi => by simp at hi⟩
theorem RowsO.rebase {w : World} {base base' : Nat} {v : Value} {rs : List (List UInt8)} (h : RowsO w base v rs) (hb : base' ≤ base) : RowsO w base' v rs := by
  obtain ⟨vs, h1, h2⟩ := h
  refine ⟨vs, own_rebase h1 (fun k hk => by have := own_ge h1 k hk; omega), fun i hi => ?_⟩
  obtain ⟨u, q1, A, n, c, q2, q3, q4⟩ := h2 i hi
  exact ⟨u, q1, A, n, c, q2, q3, fun a ha => ⟨by have := (q4 a ha).1; omega, (q4 a ha).2⟩⟩
/-- More records, behind an append. -/
theorem RowsO.app {W w1 : World} {base : Nat} {v v1 : Value} {rs rs' : List (List UInt8)} {vs us : List Value} (h : ∀ (i : Nat) (h : i < rs.length), ∃ u, vs[i]? = some u ∧ RowO W base v u rs[i]) (hvs : vs.length = rs.length)
    (hu : ∀ (i : Nat) (h : i < rs'.length), ∃ u, us[i]? = some u ∧ RowO W base v u rs'[i]) (h1 : w1.ownsRow base 45 1 v1 (rs.length + rs'.length) (vs ++ us)) (hg : W.grownBy w1 v.ownBlock) (hat : v1.ownBlock = v.ownBlock ∨ ∃ k, v1.ownBlock = some k ∧ W.heap.size ≤ k) (hb : base ≤ W.heap.size) :
    RowsO w1 base v1 (rs ++ rs') := by
  have hc : Ch v.ownBlock.toList W w1 := (Ch.refl _ _).grown hg (fun k hk => .inl (by simp [hk]))
  have up : ∀ {u l}, RowO W base v u l → RowO w1 base v1 u l := by
    rintro u l ⟨A, n, c, rfl, q1, q2⟩
    refine ⟨A, n, c, rfl, q1.keep hc (fun a ha hg => (q2 a ha).2.2 (by simpa using hg)), fun a ha => ⟨(q2 a ha).1, by have := (q2 a ha).2.1; have := hc.size; omega, ?_⟩⟩
    rcases hat with e | ⟨k, e, hk⟩
    · rw [e]; exact (q2 a ha).2.2
    · rw [e]
      intro e2
      injection e2 with e2
      have := (q2 a ha).2.1
      omega
  refine ⟨vs ++ us, by rw [List.length_append]; exact h1, fun i hi => ?_⟩
  by_cases hlt : i < rs.length
  · obtain ⟨u, q1, q2⟩ := h i hlt
    exact ⟨u, by rw [List.getElem?_append_left (by omega)]; exact q1, by rw [List.getElem_append_left hlt]; exact up q2⟩
  · have hlt2 : i - rs.length < rs'.length := by rw [List.length_append] at hi; omega
    obtain ⟨u, q1, q2⟩ := hu (i - rs.length) hlt2
    exact ⟨u, by rw [List.getElem?_append_right (by omega), hvs]; exact q1, by rw [List.getElem_append_right (by omega)]; exact up q2⟩
theorem OwnB.row {w : World} {base : Nat} {v u : Value} {l : List UInt8} (h : OwnB base l w u) (hv : ∀ k, v.ownBlock = some k → k < base) (base0 : Nat) (hb : base0 ≤ base) : RowO w base0 v u l := by
  obtain ⟨A, c, rfl, ho⟩ := h
  refine ⟨A, _, c, rfl, own_rd ho, fun a ha => ?_⟩
  subst ha
  have h1 : base ≤ a.block := own_ge ho a.block rfl
  have h2 : a.block < w.heap.size := own_lt ho a.block rfl
  exact ⟨by omega, h2, fun e => by have := hv _ e; omega⟩

/-- x[lo:hi]. -/
theorem cut_mid {P : Program} (t e : TypeId) {i : TypeInfo} (ht : P.underlying t = some (.slice e)) (hi : P.info? e = some i) (hsz : i.size = 1) (A : Option Addr) (n c lo h : Nat) (h1 : lo ≤ h) (h2 : h ≤ n) (hc : n ≤ c) :
    ∃ A' : Option Addr, (∀ (kl kh : IntKind) (W : World), (Instr.slice t (.slice A n c) (some (.int kl (lo : Int))) (some (.int kh (h : Int))) none).run P W = .ok (.slice A' (h - lo) (c - lo)) W) ∧
      (∀ (w : World) (l : List UInt8), RdB w A n c l → RdB w A' (h - lo) (c - lo) ((l.drop lo).take (h - lo))) ∧ (∀ a', A' = some a' → ∃ a, A = some a ∧ a'.block = a.block) := by
  refine ⟨if c = lo then A else A.map (·.add lo), fun kl kh W => ?_, fun w l hr => ?_, fun a' ha => ?_⟩
  · have hel : P.elem t = e := by simp [Program.elem, ht]
    have hu : P.underlying t = some (.slice (P.elem t)) := by rw [hel]; exact ht
    rw [run_slice_lh W t A n c hu kl kh (lo : Int) (h : Int) (Int.natCast_nonneg _) (by omega) (by omega), hel]
    simp [sizeOf, typeInfo, hi, hsz, sliced, Result.andThen]
  · have h3 := (Rd.drop (sz := 1) hr lo (by omega)).take (h - lo) (by omega)
    rw [Nat.mul_one, Nat.mul_one, bvs_drop, bvs_take] at h3
    exact h3
  · split at ha
    · exact ⟨a', ha, rfl⟩
    · rcases A with _ | a
      · simp at ha
      · refine ⟨a, rfl, ?_⟩
        simp only [Option.map_some, Option.some.injEq] at ha
        subst ha
        unfold Addr.add
        split <;> rfl
/-- A part of a row of one's own. -/
theorem row_sub {w : World} {base g n c : Nat} {L : List UInt8} (h : w.ownsRow base 5 1 (.slice (some ⟨g, 0, none⟩) n c) n (bvs L)) (o k cc : Nat) (ho : o + k ≤ n) (h1 : k ≤ cc) (h2 : cc ≤ maxLen) : RdB w (some ⟨g, o, none⟩) k cc ((L.drop o).take k) := by
  have hl : L.length = n := by have := h.1; simpa [bvs] using this
  refine ⟨by rw [bvs_length, List.length_take, List.length_drop]; omega, h1, h2, fun _ => ⟨g, o, rfl, fun j u hu => ?_⟩⟩
  have hj : j < k := by have := (List.getElem?_eq_some_iff.1 hu).1; rw [bvs_length, List.length_take] at this; omega
  rw [h.cellAt (o + j) (by omega)]
  rw [bvs_get, List.getElem?_take, if_pos hj, List.getElem?_drop, ← bvs_get] at hu
  exact hu

end Go.Proofs.YtbkncfedahifkaaGreat
