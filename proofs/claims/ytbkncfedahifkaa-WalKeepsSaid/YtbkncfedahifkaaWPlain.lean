/-
  Package wal, the plain law: what a log's sectors hold, opened anew, is what was laid.
-/
import Derived.Test.YtbkncfedahifkaaWOpen3
set_option linter.unusedVariables false
set_option linter.unusedSimpArgs false
namespace Go.Proofs.Ytbkncfedahifkaa
open Go.RowKit Go.Maps

/-- A row that is long enough, cut out of sectors. -/
theorem padB (B : List UInt8) (S i M : Nat) (hM : i * S + S ≤ M) : (B.drop (i * S)).take S ++ List.replicate (S - ((B.drop (i * S)).take S).length) 0 = ((B ++ List.replicate M 0).drop (i * S)).take S := by
  rw [List.drop_append, List.take_append, List.length_take, List.length_drop, List.drop_replicate, List.take_replicate]
  congr 2
  omega
theorem secB_take (S turn next : Nat) (B : List UInt8) (i : Nat) : (secB S turn next B i).take S = (B.drop (i * S)).take S ++ List.replicate (S - ((B.drop (i * S)).take S).length) 0 := by
  unfold secB
  dsimp only
  rw [List.append_assoc, ← List.append_assoc, List.take_append_of_le_length (by rw [List.length_append, List.length_replicate, List.length_take]; omega), List.take_of_length_le (by rw [List.length_append, List.length_replicate, List.length_take]; omega)]
theorem secB_drop (S turn next : Nat) (B : List UInt8) (i : Nat) : (secB S turn next B i).drop S = if i = 0 then beN 8 turn ++ beN 8 (next + 1) else List.replicate 16 0 := by
  unfold secB
  dsimp only
  rw [List.drop_append_of_le_length (by rw [List.length_append, List.length_replicate, List.length_take]; omega), List.drop_of_length_le (by rw [List.length_append, List.length_replicate, List.length_take]; omega), List.nil_append]
/-- All bytes of the sectors of a frame. -/
theorem secsB_lay (R : Nat → List UInt8) (S turn next fr : Nat) (B : List UInt8) : ∀ k M, k * S ≤ M → (∀ i, i < k → R (fr + i) = secB S turn next B i) → secsB R S fr k = (B ++ List.replicate M 0).take (k * S)
  | 0, M, hM, h => by simp [secsB]
  | k + 1, M, hM, h => by
    rw [Nat.add_mul, Nat.one_mul] at hM
    rw [secsB_succ, secsB_lay R S turn next fr B k M (by omega) (fun i hi => h i (by omega)), h k (by omega), secB_take, padB B S k M hM, Nat.add_mul, Nat.one_mul, List.take_add]
theorem secB_part (S turn next : Nat) (B : List UInt8) (j m : Nat) (h1 : j + m ≤ S) (h2 : j + m ≤ B.length) : (((secB S turn next B 0).take S).drop j).take m = (B.drop j).take m := by
  rw [secB_take, padB B S 0 S (by omega), Nat.zero_mul, List.drop_zero, List.drop_take, List.take_take, Nat.min_eq_left (by omega), List.drop_append_of_le_length (by omega), List.take_append_of_le_length (by rw [List.length_drop]; omega)]
/-- Records out of their own bytes. -/
theorem recsP_body : ∀ (rs : List (List UInt8)) (f : Nat), rs.length < f → (∀ r ∈ rs, r.length < 4294967296) → recsP f (bodyB rs) = some rs
  | [], 0, h, _ => by simp at h
  | [], f + 1, h, _ => by simp [recsP, bodyB]
  | r :: rs, 0, h, _ => by simp at h
  | r :: rs, f + 1, h, hl => by
    have hr := hl r (by simp)
    have e : bodyB (r :: rs) = beN 4 r.length ++ (r ++ bodyB rs) := by simp [bodyB]
    have h4 : (beN 4 r.length).length = 4 := beN_length _ _
    have ht : (bodyB (r :: rs)).take 4 = beN 4 r.length := by rw [e, List.take_append_of_le_length (by omega), List.take_of_length_le (by omega)]
    have hd : (bodyB (r :: rs)).drop 4 = r ++ bodyB rs := by rw [e, List.drop_append_of_le_length (by omega), List.drop_of_length_le (by omega), List.nil_append]
    have hk : deN (beN 4 r.length) = r.length := deN_beN 4 _ (by simpa using hr)
    have hlen : (bodyB (r :: rs)).length = 4 + r.length + (bodyB rs).length := bodyB_cons r rs
    unfold recsP
    rw [if_neg (by intro e2; rw [e2] at hlen; simp at hlen; omega), if_neg (by omega), ht, hk, if_pos (by omega), ← List.drop_drop, hd, List.drop_append_of_le_length (Nat.le_refl _), List.drop_length, List.nil_append,
      recsP_body rs f (by simpa using h) (fun x hx => hl x (by simp [hx])), Option.map_some, List.take_append_of_le_length (Nat.le_refl _), List.take_length]
theorem secsN_mul (S k : Nat) (hS : 0 < S) : k ≤ secsN S k * S := by
  unfold secsN
  have h := Nat.div_add_mod k S
  rw [Nat.add_mul, Nat.mul_comm (k / S) S]
  by_cases h0 : k % S = 0
  · rw [h0]; omega
  · rw [Nat.min_eq_right (by omega), Nat.one_mul]
    have := Nat.mod_lt k hS
    omega
theorem bodyB_ge : ∀ rs : List (List UInt8), 4 * rs.length ≤ (bodyB rs).length
  | [] => by simp
  | r :: rs => by have := bodyB_ge rs; rw [bodyB_cons, List.length_cons]; omega
/-- A frame that was laid, is read. -/
theorem openF_lay (R : Nat → List UInt8) (n sz side a turn next : Nat) (rs : List (List UInt8)) (hs : 128 ≤ sz) (hs2 : sz ≤ 4096) (hn : n ≤ 4096) (ht : turn < 18446744073709551616) (hx : next + 1 < 18446744073709551616) (hl : ∀ r ∈ rs, r.length < 4294967296)
    (hfit : a + secsN (sz - 16) (32 + (bodyB rs).length) ≤ n / 2) (h : ∀ i, i < secsN (sz - 16) (32 + (bodyB rs).length) → R (side * (n / 2) + a + i) = secB (sz - 16) turn next (frameB turn next rs) i) :
    openF R n sz side a next = some (turn, rs, a + secsN (sz - 16) (32 + (bodyB rs).length)) := by
  generalize hS : sz - 16 = S at *
  generalize hm : (bodyB rs).length = m at *
  have hS1 : 112 ≤ S := by omega
  have hk1 := secsN_ge S (32 + m) (by omega) (by omega)
  generalize hk : secsN S (32 + m) = k at *
  have hB : (frameB turn next rs).length = 32 + m := by rw [frameB_length, hm]
  have h0 : R (side * (n / 2) + a) = secB S turn next (frameB turn next rs) 0 := h 0 (by omega)
  have l1 : (beN 8 turn).length = 8 := beN_length _ _
  have l2 : (beN 8 next).length = 8 := beN_length _ _
  have l3 : (beN 8 m).length = 8 := beN_length _ _
  have ls : signB.length = 8 := rfl
  have eB : frameB turn next rs = signB ++ (beN 8 turn ++ (beN 8 next ++ (beN 8 m ++ bodyB rs))) := by simp [frameB, hm]
  have hkm : k ≤ 2048 := by omega
  have hms : 32 + m ≤ 2048 * 4096 := by
    have h3 : k * S ≤ 2048 * 4096 := Nat.mul_le_mul hkm (by omega)
    omega
  have p1 : ((frameB turn next rs).drop 0).take 8 = signB := by rw [eB]; simp [signB]
  have d8 : (frameB turn next rs).drop 8 = beN 8 turn ++ (beN 8 next ++ (beN 8 m ++ bodyB rs)) := by rw [eB]; exact List.drop_left' ls
  have d16 : (frameB turn next rs).drop 16 = beN 8 next ++ (beN 8 m ++ bodyB rs) := by rw [show (16 : Nat) = 8 + 8 from rfl, ← List.drop_drop, d8]; exact List.drop_left' l1
  have d24 : (frameB turn next rs).drop 24 = beN 8 m ++ bodyB rs := by rw [show (24 : Nat) = 16 + 8 from rfl, ← List.drop_drop, d16]; exact List.drop_left' l2
  have d32 : (frameB turn next rs).drop 32 = bodyB rs := by rw [show (32 : Nat) = 24 + 8 from rfl, ← List.drop_drop, d24]; exact List.drop_left' l3
  have p2 : ((frameB turn next rs).drop 8).take 8 = beN 8 turn := by rw [d8]; exact List.take_left' l1
  have p3 : ((frameB turn next rs).drop 16).take 8 = beN 8 next := by rw [d16]; exact List.take_left' l2
  have p4 : ((frameB turn next rs).drop 24).take 8 = beN 8 m := by rw [d24]; exact List.take_left' l3
  have q1 := secB_part S turn next (frameB turn next rs) 0 8 (by omega) (by omega)
  have q2 := secB_part S turn next (frameB turn next rs) 8 8 (by omega) (by omega)
  have q3 := secB_part S turn next (frameB turn next rs) 16 8 (by omega) (by omega)
  have q4 := secB_part S turn next (frameB turn next rs) 24 8 (by omega) (by omega)
  rw [p1, List.drop_zero] at q1
  rw [p2] at q2
  rw [p3] at q3
  rw [p4] at q4
  have e1 : deN (beN 8 turn) = turn := deN_beN 8 _ (by simpa using ht)
  have e2 : deN (beN 8 next) = next := deN_beN 8 _ (by simp; omega)
  have e3 : deN (beN 8 m) = m := deN_beN 8 _ (by simp; omega)
  have e4 : deN (beN 8 (next + 1)) = next + 1 := deN_beN 8 _ (by simpa using hx)
  have hend : (secB S turn next (frameB turn next rs) 0).drop S = beN 8 turn ++ beN 8 (next + 1) := by rw [secB_drop, if_pos rfl]
  have t1 : (beN 8 turn ++ beN 8 (next + 1)).take 8 = beN 8 turn := List.take_left' l1
  have t2 : (beN 8 turn ++ beN 8 (next + 1)).drop 8 = beN 8 (next + 1) := List.drop_left' l1
  have hmost : m + 32 ≤ (n / 2 - a) * S := by
    have h3 : k * S ≤ (n / 2 - a) * S := Nat.mul_le_mul_right _ (by omega)
    omega
  have hall : ((secsB R S (side * (n / 2) + a) k).drop 32).take m = bodyB rs := by
    rw [secsB_lay R S turn next (side * (n / 2) + a) (frameB turn next rs) k (k * S) (Nat.le_refl _) h, List.drop_take, List.take_take, Nat.min_eq_left (by omega), List.drop_append_of_le_length (by omega), d32, List.take_append_of_le_length (by omega), List.take_of_length_le (by omega)]
  unfold openF
  simp only [hS, h0, q1, q2, q3, q4, e1, e2, e3, hend, t1, t2, e4, Nat.add_comm 32 m ▸ hk]
  rw [if_pos ⟨by omega, trivial, trivial, trivial, trivial, hmost⟩]
  have hk' : secsN S (32 + m) = k := hk
  rw [hk', hall, recsP_body rs (m + 1) (by have := bodyB_ge rs; omega) hl]
  rfl

end Go.Proofs.Ytbkncfedahifkaa
