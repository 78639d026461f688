/-
  Package disk, in plain words: what settling comes to, sector by sector; a disk with power.
-/
import Derived.Test.YtbkncfedahifkaaDCopy
set_option linter.unusedVariables false
namespace Go.Proofs.Ytbkncfedahifkaa
open Go.RowKit Go.Maps

/-- How many written sectors lie ahead of i. -/
def Dsk.rk (d : Dsk) (i : Nat) : Nat := ((List.range i).filter fun j => (d.dirty j).isSome).length
theorem rk_zero (d : Dsk) : d.rk 0 = 0 := rfl
theorem rk_succ (d : Dsk) (i : Nat) : d.rk (i + 1) = d.rk i + if (d.dirty i).isSome then 1 else 0 := by
  unfold Dsk.rk
  rw [List.range_succ, List.filter_append, List.length_append]
  congr 1
  by_cases h : (d.dirty i).isSome <;> simp [h]
theorem rk_idx (d : Dsk) (i : Nat) (hi : i < d.sure.length) (h : (d.dirty i).isSome = true) : d.idx[d.rk i]? = some i := by
  have hsplit : d.idx = ((List.range i).filter fun j => (d.dirty j).isSome) ++ (i :: (((List.range' (i + 1) (d.sure.length - (i + 1)))).filter fun j => (d.dirty j).isSome)) := by
    unfold Dsk.idx
    have e : List.range d.sure.length = List.range i ++ i :: List.range' (i + 1) (d.sure.length - (i + 1)) := by
      rw [List.range_eq_range', List.range_eq_range', show d.sure.length = i + ((d.sure.length - (i + 1)) + 1) from by omega, ← List.range'_append_1]
      simp only [List.range'_succ]
      congr 3 <;> omega
    rw [e, List.filter_append, List.filter_cons, if_pos h]
  rw [hsplit, Dsk.rk, List.getElem?_append_right (Nat.le_refl _)]
  simp
theorem idx_rk (d : Dsk) (k : Nat) (hk : k < d.idx.length) : d.rk d.idx[k] = k := by
  obtain ⟨h1, l, h2⟩ := d.idx_lt d.idx[k] (List.getElem_mem hk)
  have h3 := rk_idx d d.idx[k] h1 (by simp [h2])
  have hp := d.idx_pair
  obtain ⟨hr, e⟩ := List.getElem?_eq_some_iff.1 h3
  rcases Nat.lt_trichotomy (d.rk d.idx[k]) k with h | h | h
  · have := List.pairwise_iff_getElem.1 hp _ _ hr hk h
    omega
  · exact h
  · have := List.pairwise_iff_getElem.1 hp _ _ hk hr h
    omega
/-- A sector once k of the written ones are settled. -/
theorem settleK_get (d : Dsk) (res : Nat → List UInt8 → List UInt8 → List UInt8) : ∀ (k : Nat), k ≤ d.idx.length → ∀ (i : Nat), i < d.sure.length →
    (d.settleK res k).sure.getD i [] = match d.dirty i with | some l => if d.rk i < k then res (d.rk i) (d.sure.getD i []) l else d.sure.getD i [] | none => d.sure.getD i []
  | 0, _, i, hi => by
    cases d.dirty i <;> simp [Dsk.settleK]
  | k + 1, hk, i, hi => by
    have hk' : k < d.idx.length := hk
    have ih := settleK_get d res k (by omega)
    obtain ⟨h1, l, h2⟩ := d.idx_lt d.idx[k] (List.getElem_mem hk')
    have h3 := idx_rk d k hk'
    have hgd : d.idx.getD k 0 = d.idx[k] := by simp [List.getD, hk']
    have hlen := (settleK_keeps d res k).2.2.1
    simp only [Dsk.settleK, hgd, h2, Option.getD_some]
    by_cases e : i = d.idx[k]
    · have h4 := ih d.idx[k] h1
      rw [h2] at h4
      simp only [h3, Nat.lt_irrefl, if_false] at h4
      rw [e, h2]
      simp only [h3, Nat.lt_succ_self, if_true, h4]
      simp [Dsk.sureAt, List.getD, hlen, h1]
    · have h5 : ((d.settleK res k).sureAt d.idx[k] (res k ((d.settleK res k).sure.getD d.idx[k] []) l)).sure.getD i [] = (d.settleK res k).sure.getD i [] := by
        simp only [Dsk.sureAt, List.getD]
        rw [List.getElem?_set_ne (fun h => e h.symm)]
      rw [h5, ih i hi]
      cases hd : d.dirty i with
      | none => rfl
      | some q =>
        have h6 := rk_idx d i hi (by simp [hd])
        have hne : d.rk i ≠ k := by
          intro h7
          rw [h7, List.getElem?_eq_getElem hk'] at h6
          injection h6 with h6
          exact e h6.symm
        by_cases h8 : d.rk i < k
        · simp only [h8, if_true]; rw [if_pos (by omega)]
        · simp only [h8, if_false]; rw [if_neg (by omega)]
theorem rk_lt (d : Dsk) (i : Nat) (hi : i < d.sure.length) (h : (d.dirty i).isSome = true) : d.rk i < d.idx.length := (List.getElem?_eq_some_iff.1 (rk_idx d i hi h)).1
theorem settled_keeps (d : Dsk) (res : Nat → List UInt8 → List UInt8 → List UInt8) : (d.settled res).sz = d.sz ∧ (d.settled res).sure.length = d.sure.length ∧ (d.settled res).cut = d.cut ∧ (d.settled res).dead = d.dead ∧ ∀ i, (d.settled res).dirty i = none := by
  obtain ⟨h1, h2, h3, h4, h5⟩ := settleK_keeps d res d.idx.length
  exact ⟨h1, h3, h4, h5, fun _ => rfl⟩
theorem settled_get (d : Dsk) (res : Nat → List UInt8 → List UInt8 → List UInt8) (i : Nat) (hi : i < d.sure.length) :
    (d.settled res).sure.getD i [] = match d.dirty i with | some l => res (d.rk i) (d.sure.getD i []) l | none => d.sure.getD i [] := by
  have h := settleK_get d res d.idx.length (Nat.le_refl _) i hi
  show (d.settleK res d.idx.length).sure.getD i [] = _
  rw [h]
  cases hd : d.dirty i with
  | none => rfl
  | some l =>
    have := rk_lt d i hi (by simp [hd])
    simp only [this, if_true]

/-! ### a disk with power -/
def Dsk.live (d : Dsk) : Prop := d.dead = false ∧ d.cut = -1
theorem live_at {d : Dsk} (h : d.live) (i : Nat) (hi : i < d.sure.length) : d.at_ i = 0 := by
  simp [Dsk.at_, h.1]
  omega
theorem live_write {d : Dsk} (h : d.live) (i : Nat) (hi : i < d.sure.length) (l : List UInt8) (hl : l.length = d.sz) : d.write i l = (d.put i l, 0) := by
  have hp : d.power = (d, true) := by simp [Dsk.power, h.2]
  simp [Dsk.write, live_at h i hi, hl, hp]
theorem live_flush {d : Dsk} (h : d.live) : d.flush = (d.settled resFlush, 0) := by
  have hp : d.power = (d, true) := by simp [Dsk.power, h.2]
  simp [Dsk.flush, h.1, hp]
theorem put_live {d : Dsk} (h : d.live) (i : Nat) (l : List UInt8) : (d.put i l).live := h
theorem put_read (d : Dsk) (i j : Nat) (l : List UInt8) : (d.put i l).read j = if j = i then l else d.read j := by
  unfold Dsk.read Dsk.put
  by_cases e : j = i <;> simp [e]
theorem settled_live {d : Dsk} (h : d.live) (res : Nat → List UInt8 → List UInt8 → List UInt8) : (d.settled res).live := by
  obtain ⟨_, _, h3, h4, _⟩ := settled_keeps d res
  exact ⟨by rw [h4]; exact h.1, by rw [h3]; exact h.2⟩
theorem flush_read (d : Dsk) (i : Nat) (hi : i < d.sure.length) : (d.settled resFlush).read i = d.read i := by
  obtain ⟨_, _, _, _, h5⟩ := settled_keeps d resFlush
  unfold Dsk.read
  rw [h5, settled_get d resFlush i hi]
  cases d.dirty i <;> rfl
theorem new_live (n sz : Nat) : (Dsk.new n sz).live := ⟨rfl, rfl⟩

/-- A byte row of one's own. -/
theorem OwnB.get {B : Nat} {l : List UInt8} {w : World} {v : Value} (h : OwnB B l w v) (h0 : 0 < l.length) :
    ∃ b c, v = .slice (some ⟨b, 0, none⟩) l.length c ∧ B ≤ b ∧ b < w.heap.size ∧ w.ownsRow B 5 1 (.slice (some ⟨b, 0, none⟩) l.length c) l.length (bvs l) := by
  obtain ⟨A, c, rfl, ho⟩ := h
  obtain ⟨b, o, rfl, _⟩ := (own_rd ho).cells h0
  obtain rfl : o = 0 := by
    rcases ho.2 with ⟨e, _⟩ | ⟨g', cap, cur, e, _⟩
    · cases e
    · simp only [Value.slice.injEq, Option.some.injEq, Addr.mk.injEq] at e
      exact e.1.2.1
  exact ⟨b, c, rfl, own_ge ho b rfl, own_lt ho b rfl, ho⟩
theorem OwnB.keep {B : Nat} {l : List UInt8} {w w' : World} {v : Value} (h : OwnB B l w v) {F : List Nat} (hc : Ch F w w') (hF : ∀ k, v.ownBlock = some k → k ∉ F) : OwnB B l w' v := by
  obtain ⟨A, c, rfl, ho⟩ := h
  exact ⟨A, c, rfl, own_keep ho hc hF⟩
/-- A cell of a byte row. -/
theorem row_byte {w : World} {B b n c : Nat} {l : List UInt8} (h : w.ownsRow B 5 1 (.slice (some ⟨b, 0, none⟩) n c) n (bvs l)) (j : Nat) (x : Nat) (hx : (l[j]?).map (·.toNat) = some x) : w.cell? ⟨b, j, none⟩ = some (.int .u8 (x : Int)) := by
  have hl : l.length = n := by have := h.1; simpa [bvs] using this
  have hj : j < l.length := by
    rcases Nat.lt_or_ge j l.length with h | h
    · exact h
    · rw [List.getElem?_eq_none h] at hx; cases hx
  rw [h.cellAt j (by omega), bvs_get, List.getElem?_eq_getElem hj]
  rw [List.getElem?_eq_getElem hj] at hx
  simp only [Option.map_some, Option.some.injEq] at hx ⊢
  rw [bv, hx]

end Go.Proofs.Ytbkncfedahifkaa
