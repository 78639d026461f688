/-
  The statements of layer 3: full; what a disk holds behind two rows of writes and a crash, in plain words.
-/
import Derived.Test.YtbkncfedahifkaaDKnown
set_option linter.unusedVariables false
set_option linter.unusedSimpArgs false
namespace Go.Proofs.Ytbkncfedahifkaa
open Go.RowKit Go.Maps

theorem fill_set (c z : UInt8) (k n : Nat) : (List.replicate k c ++ List.replicate (n + 1) z).set k c = List.replicate (k + 1) c ++ List.replicate n z := by
  rw [List.set_append_right _ _ (by simp)]
  simp only [List.length_replicate, Nat.sub_self, List.replicate_succ, List.set_cons_zero]
  rw [← List.replicate_succ, List.replicate_succ', List.append_assoc]
  rfl

set_option maxRecDepth 100000 in
set_option maxHeartbeats 1000000 in
theorem full_any (c : UInt8) (w : World) : Calls Try.prog 46 #[.int .u8 (c.toNat : Int)] w fun e w' => ∃ v, e = .returned v ∧ OwnB w.heap.size (List.replicate 64 c) w' v ∧ Ch [] w w' := by
  obtain ⟨w1, hmk, how, hc1⟩ := make_64 w
  have hs1 := own_lt how _ rfl
  go_enter Try.func46, Try.ntmps46
  go_wp2_with fail
  clear hmk
  have h0 : w1.ownsRow w.heap.size 5 1 (.slice (some ⟨w.heap.size, 0, none⟩) 64 64) 64 (bvs (List.replicate 0 c ++ List.replicate (64 - 0) 0)) := how
  clear how
  generalize hx : w.heap.size = x at *
  go_loopw [4] (fun i wr => ∃ k : Nat, k ≤ 64 ∧ i = .int .i64 k ∧ wr.ownsRow x 5 1 (.slice (some ⟨x, 0, none⟩) 64 64) 64 (bvs (List.replicate k c ++ List.replicate (64 - k) 0)) ∧ Ch [] w wr) (fun i _ => 64 - (intOf i).toNat)
  case atStart => exact ⟨0, by omega, rfl, h0, hc1⟩
  case round =>
    clear h0 hc1
    obtain ⟨k, hk, rfl, ho, hch⟩ := hrel
    by_cases hlt : k < 64
    · obtain ⟨n, hn⟩ : ∃ n, 64 - k = n + 1 := ⟨64 - k - 1, by omega⟩
      rw [hn] at ho
      have f0 := ho.frozenAt k
      have c0 := row_byte ho k 0 (by rw [List.getElem?_append_right (by simp)]; simp [List.replicate_succ])
      have h1 := row_set ho k c _ rfl
      rw [fill_set] at h1
      have hc2 := hch.setCell ⟨x, k, none⟩ (.int .u8 (c.toNat : Int)) (.inr (by show w.heap.size ≤ x; omega))
      have hn' : 64 - (k + 1) = n := by omega
      have Hn := Lib.hid hn'
      clear hn hn' ho
      go_wp2_with fail
      go_roundw
      case rel => exact ⟨k + 1, by omega, by go_num, by rw [Hn.out]; exact h1, hc2⟩
      case measure => simp [intOf]; omega
    · obtain rfl : k = 64 := by omega
      clear hlt hk
      go_wp2_with fail
      go_ret
      exact ⟨_, rfl, ⟨_, 64, rfl, by rw [hx]; simpa using ho⟩, hch⟩

/-- Sector i behind the writes of a and a flush. -/
def oldOf (a : List UInt8) (i : Nat) : UInt8 := a.getD i 0
def SureA (a : List UInt8) (d : Dsk) (k : Nat) : Prop := d.live ∧ d.sz = 64 ∧ d.sure.length = 40 ∧ ∀ i, i < 40 → d.read i = List.replicate 64 (if i < k then oldOf a i else 0)
def SureB (a b : List UInt8) (d : Dsk) (k : Nat) : Prop := d.live ∧ d.sz = 64 ∧ d.sure.length = 40 ∧ (∀ i, i < 40 → d.sure.getD i [] = List.replicate 64 (oldOf a i)) ∧ ∀ i, d.dirty i = if i < k then some (List.replicate 64 (b.getD i 0)) else none
theorem new_read (n sz i : Nat) (hi : i < n) : (Dsk.new n sz).read i = List.replicate sz 0 := by
  simp [Dsk.read, Dsk.new, List.getD, hi]
theorem SureA.new (a : List UInt8) : SureA a (Dsk.new 40 64) 0 := by
  refine ⟨new_live _ _, rfl, rfl, fun i hi => ?_⟩
  rw [new_read 40 64 i hi, if_neg (by omega)]
theorem SureA.step {a : List UInt8} {d : Dsk} {k : Nat} (h : SureA a d k) (hk : k < a.length) : SureA a (d.put k (List.replicate 64 a[k])) (k + 1) := by
  obtain ⟨h1, h2, h3, h4⟩ := h
  refine ⟨h1, h2, h3, fun i hi => ?_⟩
  rw [put_read]
  by_cases e : i = k
  · subst e
    rw [if_pos rfl, if_pos (by omega)]
    simp [oldOf, List.getD, hk]
  · rw [if_neg e, h4 i hi]
    by_cases e2 : i < k
    · rw [if_pos e2, if_pos (by omega)]
    · rw [if_neg e2, if_neg (by omega)]
theorem SureA.flush {a : List UInt8} (b : List UInt8) {d : Dsk} (h : SureA a d a.length) : SureB a b (d.settled resFlush) 0 := by
  obtain ⟨h1, h2, h3, h4⟩ := h
  obtain ⟨k1, k2, k3, k4, k5⟩ := settled_keeps d resFlush
  refine ⟨settled_live h1 _, by rw [k1]; exact h2, by rw [k2]; exact h3, fun i hi => ?_, fun i => by rw [k5]; simp⟩
  have := flush_read d i (by omega)
  have e : (d.settled resFlush).read i = (d.settled resFlush).sure.getD i [] := by unfold Dsk.read; rw [k5]; rfl
  rw [← e, this, h4 i hi]
  by_cases hi2 : i < a.length
  · rw [if_pos hi2]
  · rw [if_neg hi2]
    simp [oldOf, List.getD, Nat.le_of_not_lt hi2]
theorem SureB.step {a b : List UInt8} {d : Dsk} {k : Nat} (h : SureB a b d k) (hk : k < b.length) : SureB a b (d.put k (List.replicate 64 b[k])) (k + 1) := by
  obtain ⟨h1, h2, h3, h4, h5⟩ := h
  refine ⟨h1, h2, h3, h4, fun i => ?_⟩
  simp only [Dsk.put]
  by_cases e : i = k
  · subst e
    rw [if_pos rfl, if_pos (by omega)]
    simp [List.getD, hk]
  · rw [if_neg e, h5 i]
    by_cases e2 : i < k
    · rw [if_pos e2, if_pos (by omega)]
    · rw [if_neg e2, if_neg (by omega)]
theorem SureB.rk {a b : List UInt8} {d : Dsk} {k : Nat} (h : SureB a b d k) : ∀ i, i ≤ k → d.rk i = i
  | 0, _ => rfl
  | i + 1, hi => by
    rw [rk_succ, h.rk i (by omega), h.2.2.2.2 i]
    simp only [show i < k from by omega, if_true, Option.isSome_some]
/-- How many bytes are new. -/
def newsOf (b : List UInt8) (keep : Nat) (torn : Int) (q : Nat) (i : Nat) : Nat := if i < b.length then (if (i : Int) = torn then q else if keep / 2 ^ i % 2 = 1 then 64 else 0) else 0
theorem SureB.crash {a b : List UInt8} {d : Dsk} (h : SureB a b d b.length) (keep : Nat) (torn at_ : Int) (i : Nat) (hi : i < 40) :
    (d.crash keep torn at_).at_ (i : Int) = 0 ∧ (d.crash keep torn at_).read i = List.replicate (newsOf b keep torn (min (max at_ 0) 64).toNat i) (b.getD i 0) ++ List.replicate (64 - newsOf b keep torn (min (max at_ 0) 64).toNat i) (oldOf a i) := by
  have hq : (min (max at_ 0) 64).toNat ≤ 64 := by omega
  have hrk := h.rk
  obtain ⟨h1, h2, h3, h4, h5⟩ := h
  have hcr : d.crash keep torn at_ = { d.settled (resCrash keep torn (min (max at_ 0) 64).toNat) with dead := false, cut := -1 } := by
    unfold Dsk.crash
    rw [h2]
    rfl
  rw [hcr]
  generalize (min (max at_ 0) 64).toNat = q at *
  obtain ⟨k1, k2, k3, k4, k5⟩ := settled_keeps d (resCrash keep torn q)
  refine ⟨?_, ?_⟩
  · simp only [Dsk.at_, k2, h3]
    simp
    omega
  · have e : (Dsk.read { d.settled (resCrash keep torn q) with dead := false, cut := -1 } i) = (d.settled (resCrash keep torn q)).sure.getD i [] := by unfold Dsk.read; simp only [k5]; rfl
    rw [e, settled_get d _ i (by omega), h5, h4 i hi]
    by_cases hb : i < b.length
    · rw [if_pos hb]
      simp only [hrk i (by omega), resCrash, newsOf, if_pos hb, show i % 64 = i from by omega]
      by_cases ht : (i : Int) = torn
      · rw [if_pos ht, if_pos ht]
        simp only [List.take_replicate, List.drop_replicate]
        rw [Nat.min_eq_left hq]
      · rw [if_neg ht, if_neg ht]
        by_cases hk : keep / 2 ^ i % 2 = 1
        · rw [if_pos hk, if_pos hk]; simp
        · rw [if_neg hk, if_neg hk]; simp
    · rw [if_neg hb]
      simp [newsOf, hb]

/-- A byte of a sector that is part new, part old. -/
theorem sec_new {L : List UInt8} {N : Nat} {x y : UInt8} (h : L = List.replicate N x ++ List.replicate (64 - N) y) (k : Nat) (hk : k < N) : (L[k]?).map (·.toNat) = some x.toNat := by
  rw [h, List.getElem?_append_left (by rw [List.length_replicate]; exact hk), List.getElem?_replicate, if_pos hk]
  rfl
theorem sec_old {L : List UInt8} {N : Nat} {x y : UInt8} (h : L = List.replicate N x ++ List.replicate (64 - N) y) (k : Nat) (hk : N ≤ k) (hk2 : k < 64) : (L[k]?).map (·.toNat) = some y.toNat := by
  rw [h, List.getElem?_append_right (by rw [List.length_replicate]; exact hk), List.length_replicate, List.getElem?_replicate, if_pos (by omega)]
  rfl

end Go.Proofs.Ytbkncfedahifkaa
