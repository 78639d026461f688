/-
  The plain side of package code: numbers as bytes, and back. No program stands here.
-/
import Derived.Below
import Derived.Lib.Zigzag
namespace Go.Proofs.Ytbkncfedahifkaa

/-- A number's bytes: seven bits a byte, the lowest first, the eighth set but on the last one. -/
def encN (n : Nat) : List UInt8 := if n < 128 then [UInt8.ofNat n] else UInt8.ofNat (n % 128 + 128) :: encN (n / 128)
termination_by n
decreasing_by omega

theorem encN_small {n : Nat} (h : n < 128) : encN n = [UInt8.ofNat n] := by rw [encN, if_pos h]
theorem encN_big {n : Nat} (h : 128 ≤ n) : encN n = UInt8.ofNat (n % 128 + 128) :: encN (n / 128) := by rw [encN, if_neg (by omega)]
theorem encN_pos (n : Nat) : 0 < (encN n).length := by rw [encN]; split <;> simp

/-- How many bytes at most. -/
theorem encN_len (k : Nat) : ∀ n, n < 128 ^ (k + 1) → (encN n).length ≤ k + 1 := by
  induction k with
  | zero => intro n h; rw [encN_small (by simpa using h)]; simp
  | succ k ih =>
    intro n h
    by_cases hn : n < 128
    · rw [encN_small hn]; simp
    · rw [encN_big (by omega)]
      have : n / 128 < 128 ^ (k + 1) := by
        rw [Nat.div_lt_iff_lt_mul (by omega)]
        rw [Nat.pow_succ] at h
        exact h
      have := ih _ this
      simp only [List.length_cons]; omega
theorem encN_len10 {n : Nat} (h : n < 18446744073709551616) : (encN n).length ≤ 10 := encN_len 9 n (Nat.lt_trans h (by decide))

/-- Many, one behind another. -/
def encs (l : List Nat) : List UInt8 := l.flatMap encN
theorem encs_nil : encs [] = [] := rfl
theorem encs_append (a b : List Nat) : encs (a ++ b) = encs a ++ encs b := by simp [encs]
theorem encs_one (n : Nat) : encs [n] = encN n := by simp [encs]
theorem encs_take_succ (l : List Nat) (k : Nat) (h : k < l.length) : encs (l.take (k + 1)) = encs (l.take k) ++ encN l[k] := by
  rw [List.take_succ_eq_append_getElem h, encs_append, encs_one]
theorem encs_len (l : List Nat) (h : ∀ x ∈ l, x < 18446744073709551616) : (encs l).length ≤ 10 * l.length := by
  induction l with
  | nil => simp [encs]
  | cons a l ih =>
    have h1 := encN_len10 (h a (by simp))
    have h2 := ih (fun x hx => h x (by simp [hx]))
    simp only [encs, List.flatMap_cons, List.length_append, List.length_cons] at h2 ⊢
    omega

/-- An integer's number. -/
def zz (x : Int) : Nat := if x < 0 then (-(x + 1) * 2 + 1).toNat else (x * 2).toNat
theorem zz_lt {x : Int} (h0 : -9223372036854775808 ≤ x) (h1 : x ≤ 9223372036854775807) : zz x < 18446744073709551616 := by
  unfold zz
  split <;> omega
/-- The integer of a number. -/
def unzz (n : Nat) : Int := if n % 2 = 1 then -((n / 2 : Nat) : Int) - 1 else ((n / 2 : Nat) : Int)
theorem unzz_zz (x : Int) : unzz (zz x) = x := by
  unfold unzz zz
  split <;> split <;> omega
theorem zz_inj {x y : Int} (h : zz x = zz y) : x = y := by rw [← unzz_zz x, h, unzz_zz]

/-- A text's bytes. -/
def encT (s : List UInt8) : List UInt8 := encN s.length ++ s
def encTs (l : List (List UInt8)) : List UInt8 := l.flatMap encT
theorem encTs_append (a b : List (List UInt8)) : encTs (a ++ b) = encTs a ++ encTs b := by simp [encTs]
theorem encTs_one (s : List UInt8) : encTs [s] = encT s := by simp [encTs]
theorem encTs_take_succ (l : List (List UInt8)) (k : Nat) (h : k < l.length) : encTs (l.take (k + 1)) = encTs (l.take k) ++ encT l[k] := by
  rw [List.take_succ_eq_append_getElem h, encTs_append, encTs_one]
def bulk (l : List (List UInt8)) : Nat := (l.map List.length).sum
theorem encT_len (s : List UInt8) (h : s.length < 18446744073709551616) : (encT s).length ≤ 10 + s.length := by
  have := encN_len10 h
  simp only [encT, List.length_append]
  omega
theorem encTs_len (l : List (List UInt8)) (h : ∀ x ∈ l, x.length < 18446744073709551616) : (encTs l).length ≤ 10 * l.length + bulk l := by
  induction l with
  | nil => simp [encTs, bulk]
  | cons a l ih =>
    have h1 := encT_len a (h a (by simp))
    have h2 := ih (fun x hx => h x (by simp [hx]))
    simp only [encTs, bulk, List.flatMap_cons, List.length_append, List.length_cons, List.map_cons, List.sum_cons] at h2 ⊢
    omega
theorem bulk_take (l : List (List UInt8)) (k : Nat) (h : k < l.length) : bulk (l.take k) + l[k].length ≤ bulk l := by
  have e : l = l.take k ++ l[k] :: l.drop (k + 1) := by rw [← List.drop_eq_getElem_cons h, List.take_append_drop]
  have : bulk l = bulk (l.take k ++ l[k] :: l.drop (k + 1)) := by rw [← e]
  rw [this]
  simp only [bulk, List.map_append, List.sum_append, List.map_cons, List.sum_cons]
  omega

/-- A truth's bytes. -/
def encB (b : Bool) : List UInt8 := [if b then 1 else 0]
theorem encB_num (b : Bool) : encB b = encN (if b then 1 else 0) := by cases b <;> (rw [encN_small (by decide)]; rfl)

/-! ### reading -/
def decG (k m : Nat) : List UInt8 → Option (Nat × List UInt8)
  | [] => none
  | c :: r => if 10 ≤ k ∨ (k = 9 ∧ 1 < c.toNat) then none
    else if c.toNat < 128 then (if c.toNat = 0 ∧ k ≠ 0 then none else some (m + c.toNat * 128 ^ k, r))
    else decG (k + 1) (m + (c.toNat - 128) * 128 ^ k) r
def decN (l : List UInt8) : Option (Nat × List UInt8) := decG 0 0 l

/-- A text. -/
def decT (l : List UInt8) : Option (List UInt8 × List UInt8) := (decN l).bind fun p => if p.1 ≤ p.2.length then some (p.2.take p.1, p.2.drop p.1) else none
/-- A truth. -/
def decB : List UInt8 → Option (Bool × List UInt8)
  | [] => none
  | c :: r => if c.toNat ≤ 1 then some (c.toNat == 1, r) else none

/-- No number is above 64 bits. -/
theorem decG_lt (l : List UInt8) : ∀ k m x r, m < 128 ^ k → k ≤ 10 → decG k m l = some (x, r) → x < 18446744073709551616 := by
  induction l with
  | nil => intro k m x r hm hk h; simp [decG] at h
  | cons c l ih =>
    intro k m x r hm hk h
    rw [decG] at h
    split at h
    · cases h
    · rename_i hn
      have hk9 : k < 9 ∨ (k = 9 ∧ c.toNat ≤ 1) := by omega
      have hb : ∀ y, y ≤ 127 → (k = 9 → y ≤ 1) → m + y * 128 ^ k < 18446744073709551616 := by
        intro y hy h9
        rcases hk9 with hk9 | ⟨rfl, _⟩
        · have h1 : 128 ^ k ≤ 128 ^ 8 := Nat.pow_le_pow_right (by omega) (by omega)
          have h2 : y * 128 ^ k ≤ 127 * 128 ^ 8 := Nat.mul_le_mul hy h1
          omega
        · have h2 : y * 128 ^ 9 ≤ 1 * 128 ^ 9 := Nat.mul_le_mul_right _ (h9 rfl)
          omega
      split at h
      · split at h
        · cases h
        · injection h with h
          injection h with h1 h2
          rw [← h1]
          exact hb _ (by omega) (by omega)
      · have hk' : k < 9 := by omega
        refine ih (k + 1) _ x r ?_ (by omega) h
        have hc := c.toNat_lt
        have h1 : (c.toNat - 128) * 128 ^ k ≤ 127 * 128 ^ k := Nat.mul_le_mul_right _ (by omega)
        rw [Nat.pow_succ]
        omega
theorem decN_lt {l r : List UInt8} {x : Nat} (h : decN l = some (x, r)) : x < 18446744073709551616 := decG_lt l 0 0 x r (by simp) (by omega) h
theorem decG_short (l : List UInt8) : ∀ k m x r, decG k m l = some (x, r) → r.length < l.length := by
  induction l with
  | nil => intro k m x r h; simp [decG] at h
  | cons c l ih =>
    intro k m x r h
    rw [decG] at h
    split at h
    · cases h
    · split at h
      · split at h
        · cases h
        · injection h with h
          injection h with h1 h2
          rw [← h2]
          simp
      · have := ih _ _ _ _ h
        simp only [List.length_cons]
        omega
theorem decN_short {l r : List UInt8} {x : Nat} (h : decN l = some (x, r)) : r.length < l.length := decG_short l 0 0 x r h

theorem u8_of (n : Nat) (h : n < 256) : (UInt8.ofNat n).toNat = n := by
  rw [UInt8.toNat_ofNat']
  exact Nat.mod_eq_of_lt (by omega)
/-- What is written is read back. -/
theorem decG_encN (n : Nat) : ∀ k m r, k ≤ 9 → n * 128 ^ k < 18446744073709551616 → (n = 0 → k = 0) → decG k m (encN n ++ r) = some (m + n * 128 ^ k, r) := by
  induction n using Nat.strongRecOn with
  | _ n ih =>
    intro k m r hk hn h0
    have h9 : k = 9 → n ≤ 1 := by
      rintro rfl
      have e : (128 : Nat) ^ 9 = 9223372036854775808 := by decide
      rw [e] at hn
      omega
    by_cases h : n < 128
    · rw [encN_small h, List.singleton_append, decG, u8_of n (by omega), if_neg (by omega), if_pos h, if_neg (by omega)]
    · have hk8 : k < 9 := by omega
      rw [encN_big (by omega), List.cons_append, decG, u8_of _ (by omega), if_neg (by omega), if_neg (by omega), ih (n / 128) (by omega) (k + 1) _ r (by omega) ?_ (by omega)]
      · congr 2
        have e1 : n / 128 * 128 ^ (k + 1) = n / 128 * 128 * 128 ^ k := by rw [Nat.pow_succ, Nat.mul_comm (128 ^ k), Nat.mul_assoc]
        rw [e1, Nat.add_assoc, ← Nat.add_mul]
        congr 2
        omega
      · have e1 : n / 128 * 128 ^ (k + 1) = n / 128 * 128 * 128 ^ k := by rw [Nat.pow_succ, Nat.mul_comm (128 ^ k), Nat.mul_assoc]
        rw [e1]
        have : n / 128 * 128 * 128 ^ k ≤ n * 128 ^ k := Nat.mul_le_mul_right _ (by omega)
        omega
theorem decN_encN (n : Nat) (r : List UInt8) (h : n < 18446744073709551616) : decN (encN n ++ r) = some (n, r) := by
  have := decG_encN n 0 0 r (by omega) (by simpa using h) (by simp)
  simpa [decN] using this
theorem encN_inj {a b : Nat} (ha : a < 18446744073709551616) (hb : b < 18446744073709551616) (h : encN a = encN b) : a = b := by
  have h1 := decN_encN a [] ha
  have h2 := decN_encN b [] hb
  rw [h, h2] at h1
  injection h1 with h1
  injection h1 with h1
  exact h1.symm
theorem encN_mono (a : Nat) : ∀ b, a ≤ b → (encN a).length ≤ (encN b).length := by
  induction a using Nat.strongRecOn with
  | _ a ih =>
    intro b h
    by_cases hb : b < 128
    · rw [encN_small hb, encN_small (show a < 128 by omega)]; simp
    · by_cases ha : a < 128
      · rw [encN_small ha]; have := encN_pos b; simp; omega
      · rw [encN_big (n := a) (by omega), encN_big (n := b) (by omega)]
        have := ih (a / 128) (by omega) (b / 128) (by omega)
        simp only [List.length_cons]
        omega
theorem decT_encT (s r : List UInt8) (h : s.length < 18446744073709551616) : decT (encT s ++ r) = some (s, r) := by
  unfold decT encT
  rw [List.append_assoc, decN_encN _ _ h, Option.bind_some, if_pos (by simp)]
  simp
theorem decB_encB (b : Bool) (r : List UInt8) : decB (encB b ++ r) = some (b, r) := by cases b <;> rfl

end Go.Proofs.Ytbkncfedahifkaa
