/-
  Package wal: what opening a frame comes to; rows of records of one's own; cuts.
-/
import Derived.Test.YtbkncfedahifkaaWSector
set_option linter.unusedVariables false
set_option linter.unusedSimpArgs false
namespace Go.Proofs.Ytbkncfedahifkaa
open Go.RowKit Go.Maps

/-- Records out of their bytes. -/
def recsP : Nat → List UInt8 → Option (List (List UInt8))
  | 0, _ => none
  | f + 1, l => if l = [] then some [] else if l.length < 4 then none else if deN (l.take 4) ≤ l.length - 4 then (recsP f (l.drop (4 + deN (l.take 4)))).map (((l.drop 4).take (deN (l.take 4))) :: ·) else none
/-- The bytes of so many sectors of a side, without their ends. -/
def secsB (R : Nat → List UInt8) (S fr k : Nat) : List UInt8 := (List.range k).flatMap fun i => (R (fr + i)).take S
theorem secsB_succ (R : Nat → List UInt8) (S fr k : Nat) : secsB R S fr (k + 1) = secsB R S fr k ++ (R (fr + k)).take S := by simp [secsB, List.range_succ]
theorem secsB_length (R : Nat → List UInt8) (S fr : Nat) : ∀ k, (∀ i, i < k → S ≤ (R (fr + i)).length) → (secsB R S fr k).length = k * S
  | 0, _ => by simp [secsB]
  | k + 1, h => by
    rw [secsB_succ, List.length_append, secsB_length R S fr k (fun i hi => h i (by omega)), List.length_take, Nat.min_eq_left (h k (by omega)), Nat.add_mul, Nat.one_mul]
/-- A frame, as it is read: its turn, its records, the sector behind it. -/
def openF (R : Nat → List UInt8) (n sz side a next : Nat) : Option (Nat × List (List UInt8) × Nat) :=
  let S := sz - 16
  let fr := side * (n / 2) + a
  let b := (R fr).take S
  let e := (R fr).drop S
  let t := deN ((b.drop 8).take 8)
  let m := deN ((b.drop 24).take 8)
  if a < n / 2 ∧ b.take 8 = signB ∧ deN ((b.drop 16).take 8) = next ∧ deN (e.take 8) = t ∧ deN (e.drop 8) = next + 1 ∧ m + 32 ≤ (n / 2 - a) * S then
    (recsP (m + 1) (((secsB R S fr (secsN S (32 + m))).drop 32).take m)).map fun rs => (t, rs, a + secsN S (32 + m))
  else none

/-- A record that lies in a block of one's own, besides the row of a slice v. -/
def RowO (w : World) (base : Nat) (v u : Value) (l : List UInt8) : Prop := ∃ A n c, u = .slice A n c ∧ RdB w A n c l ∧ ∀ a, A = some a → base ≤ a.block ∧ a.block < w.heap.size ∧ v.ownBlock ≠ some a.block
/-- Records of one's own, in a slice of one's own. -/
def RowsO (w : World) (base : Nat) (v : Value) (rs : List (List UInt8)) : Prop := ∃ vs, w.ownsRow base 28 1 v rs.length vs ∧ ∀ (i : Nat) (h : i < rs.length), ∃ u, vs[i]? = some u ∧ RowO w base v u rs[i]
theorem RowO.keep {w w' : World} {base : Nat} {v u : Value} {l : List UInt8} (h : RowO w base v u l) {F : List Nat} (hc : Ch F w w') (hF : ∀ x ∈ F, x < base ∨ w.heap.size ≤ x) : RowO w' base v u l := by
  obtain ⟨A, n, c, rfl, h1, h2⟩ := h
  exact ⟨A, n, c, rfl, h1.keep hc (fun a ha hg => by have := h2 a ha; have := hF _ hg; omega), fun a ha => ⟨(h2 a ha).1, Nat.lt_of_lt_of_le (h2 a ha).2.1 hc.size, (h2 a ha).2.2⟩⟩
theorem RowsO.keep {w w' : World} {base : Nat} {v : Value} {rs : List (List UInt8)} (h : RowsO w base v rs) {F : List Nat} (hc : Ch F w w') (hF : ∀ x ∈ F, x < base ∨ w.heap.size ≤ x) : RowsO w' base v rs := by
  obtain ⟨vs, h1, h2⟩ := h
  refine ⟨vs, own_keep h1 hc (fun k hk hg => by have := own_ge h1 k hk; have := own_lt h1 k hk; have := hF _ hg; omega), fun i hi => ?_⟩
  obtain ⟨u, q1, q2⟩ := h2 i hi
  exact ⟨u, q1, q2.keep hc hF⟩
theorem RowsO.nil {w w' : World} {base : Nat} {v : Value} {rs : List (List UInt8)} (h : RowsO w base v rs) (hc : Ch [] w w') : RowsO w' base v rs := h.keep hc (by simp)
theorem RowsO.empty (w : World) (base : Nat) : RowsO w base (.slice none 0 0) [] := ⟨[], World.ownsRow_nil _ _ _ _, fun i hi => by simp at hi⟩
theorem RowsO.rebase {w : World} {base base' : Nat} {v : Value} {rs : List (List UInt8)} (h : RowsO w base v rs) (hb : base' ≤ base) : RowsO w base' v rs := by
  obtain ⟨vs, h1, h2⟩ := h
  refine ⟨vs, own_rebase h1 (fun k hk => by have := own_ge h1 k hk; omega), fun i hi => ?_⟩
  obtain ⟨u, q1, A, n, c, q2, q3, q4⟩ := h2 i hi
  exact ⟨u, q1, A, n, c, q2, q3, fun a ha => ⟨by have := (q4 a ha).1; omega, (q4 a ha).2⟩⟩
/-- More records, behind an append. -/
theorem RowsO.app {W w1 : World} {base : Nat} {v v1 : Value} {rs rs' : List (List UInt8)} {vs us : List Value} (h : ∀ (i : Nat) (h : i < rs.length), ∃ u, vs[i]? = some u ∧ RowO W base v u rs[i]) (hvs : vs.length = rs.length)
    (hu : ∀ (i : Nat) (h : i < rs'.length), ∃ u, us[i]? = some u ∧ RowO W base v u rs'[i]) (h1 : w1.ownsRow base 28 1 v1 (rs.length + rs'.length) (vs ++ us)) (hg : W.grownBy w1 v.ownBlock) (hat : v1.ownBlock = v.ownBlock ∨ ∃ k, v1.ownBlock = some k ∧ W.heap.size ≤ k) (hb : base ≤ W.heap.size) :
    RowsO w1 base v1 (rs ++ rs') := by
  have hc : Ch v.ownBlock.toList W w1 := (Ch.refl _ _).grown hg (fun k hk => .inl (by simp [hk]))
  have up : ∀ {u l}, RowO W base v u l → RowO w1 base v1 u l := by
    rintro u l ⟨A, n, c, rfl, q1, q2⟩
    refine ⟨A, n, c, rfl, q1.keep hc (fun a ha hg => (q2 a ha).2.2 (by simpa using hg)), fun a ha => ⟨(q2 a ha).1, by have := (q2 a ha).2.1; have := hc.size; omega, ?_⟩⟩
    rcases hat with e | ⟨k, e, hk⟩
    · rw [e]; exact (q2 a ha).2.2
    · rw [e]
      intro e2
      injection e2 with e2
      have := (q2 a ha).2.1
      omega
  refine ⟨vs ++ us, by rw [List.length_append]; exact h1, fun i hi => ?_⟩
  by_cases hlt : i < rs.length
  · obtain ⟨u, q1, q2⟩ := h i hlt
    exact ⟨u, by rw [List.getElem?_append_left (by omega)]; exact q1, by rw [List.getElem_append_left hlt]; exact up q2⟩
  · have hlt2 : i - rs.length < rs'.length := by rw [List.length_append] at hi; omega
    obtain ⟨u, q1, q2⟩ := hu (i - rs.length) hlt2
    exact ⟨u, by rw [List.getElem?_append_right (by omega), hvs]; exact q1, by rw [List.getElem_append_right (by omega)]; exact up q2⟩
theorem OwnB.row {w : World} {base : Nat} {v u : Value} {l : List UInt8} (h : OwnB base l w u) (hv : ∀ k, v.ownBlock = some k → k < base) (base0 : Nat) (hb : base0 ≤ base) : RowO w base0 v u l := by
  obtain ⟨A, c, rfl, ho⟩ := h
  refine ⟨A, _, c, rfl, own_rd ho, fun a ha => ?_⟩
  subst ha
  have h1 : base ≤ a.block := own_ge ho a.block rfl
  have h2 : a.block < w.heap.size := own_lt ho a.block rfl
  exact ⟨by omega, h2, fun e => by have := hv _ e; omega⟩

/-- x[lo:hi]. -/
theorem cut_mid {P : Program} (t e : TypeId) {i : TypeInfo} (ht : P.underlying t = some (.slice e)) (hi : P.info? e = some i) (hsz : i.size = 1) (A : Option Addr) (n c lo h : Nat) (h1 : lo ≤ h) (h2 : h ≤ n) (hc : n ≤ c) :
    ∃ A' : Option Addr, (∀ (kl kh : IntKind) (W : World), (Instr.slice t (.slice A n c) (some (.int kl (lo : Int))) (some (.int kh (h : Int))) none).run P W = .ok (.slice A' (h - lo) (c - lo)) W) ∧
      (∀ (w : World) (l : List UInt8), RdB w A n c l → RdB w A' (h - lo) (c - lo) ((l.drop lo).take (h - lo))) ∧ (∀ a', A' = some a' → ∃ a, A = some a ∧ a'.block = a.block) := by
  refine ⟨if c = lo then A else A.map (·.add lo), fun kl kh W => ?_, fun w l hr => ?_, fun a' ha => ?_⟩
  · have hel : P.elem t = e := by simp [Program.elem, ht]
    have hu : P.underlying t = some (.slice (P.elem t)) := by rw [hel]; exact ht
    rw [run_slice_lh W t A n c hu kl kh (lo : Int) (h : Int) (Int.natCast_nonneg _) (by omega) (by omega), hel]
    simp [sizeOf, typeInfo, hi, hsz, sliced, Result.andThen]
  · have h3 := (Rd.drop (sz := 1) hr lo (by omega)).take (h - lo) (by omega)
    rw [Nat.mul_one, Nat.mul_one, bvs_drop, bvs_take] at h3
    exact h3
  · split at ha
    · exact ⟨a', ha, rfl⟩
    · rcases A with _ | a
      · simp at ha
      · refine ⟨a, rfl, ?_⟩
        simp only [Option.map_some, Option.some.injEq] at ha
        subst ha
        unfold Addr.add
        split <;> rfl
/-- A part of a row of one's own. -/
theorem row_sub {w : World} {base g n c : Nat} {L : List UInt8} (h : w.ownsRow base 5 1 (.slice (some ⟨g, 0, none⟩) n c) n (bvs L)) (o k cc : Nat) (ho : o + k ≤ n) (h1 : k ≤ cc) (h2 : cc ≤ maxLen) : RdB w (some ⟨g, o, none⟩) k cc ((L.drop o).take k) := by
  have hl : L.length = n := by have := h.1; simpa [bvs] using this
  refine ⟨by rw [bvs_length, List.length_take, List.length_drop]; omega, h1, h2, fun _ => ⟨g, o, rfl, fun j u hu => ?_⟩⟩
  have hj : j < k := by have := (List.getElem?_eq_some_iff.1 hu).1; rw [bvs_length, List.length_take] at this; omega
  rw [h.cellAt (o + j) (by omega)]
  rw [bvs_get, List.getElem?_take, if_pos hj, List.getElem?_drop, ← bvs_get] at hu
  exact hu

end Go.Proofs.Ytbkncfedahifkaa
