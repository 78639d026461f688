/-
  Package wal, the plain law: what a log keeps; that it is opened as it is; what commits and resets do to it.
-/
import Derived.Test.YtbkncfedahifkaaWPlain
set_option linter.unusedVariables false
set_option linter.unusedSimpArgs false
namespace Go.Proofs.Ytbkncfedahifkaa
open Go.RowKit Go.Maps

/-- Small records. -/
def SmallR (f : List (List UInt8)) : Prop := ∀ r ∈ f, r.length < 4294967296
/-- How many sectors a frame of records takes. -/
def lenF (sz : Nat) (f : List (List UInt8)) : Nat := secsN (sz - 16) (32 + (bodyB f).length)
/-- Frames, one behind another. -/
def Frames (R : Nat → List UInt8) (n sz turn : Nat) : Nat → Nat → List (List (List UInt8)) → Nat → Prop
  | a, _, [], a' => a = a'
  | a, nx, f :: fs, a' => (∀ i, i < lenF sz f → R (turn % 2 * (n / 2) + a + i) = secB (sz - 16) turn nx (frameB turn nx f) i) ∧ a + lenF sz f ≤ n / 2 ∧ SmallR f ∧ Frames R n sz turn (a + lenF sz f) (nx + 1) fs a'
/-- The turn, and the number, at a sector's end. -/
def tailT (R : Nat → List UInt8) (sz s : Nat) : Nat := deN (((R s).drop (sz - 16)).take 8)
def tailN (R : Nat → List UInt8) (sz s : Nat) : Nat := deN (((R s).drop (sz - 16)).drop 8)
structure LogI (R : Nat → List UInt8) (n sz turn next a : Nat) (rs : List (List UInt8)) : Prop where
  fs : ∃ fs : List (List (List UInt8)), fs.flatten = rs ∧ fs.length = next ∧ Frames R n sz turn 0 0 fs a
  tails : ∀ s, s < n → tailN R sz s = 0 ∨ tailT R sz s < turn ∨ (tailT R sz s = turn ∧ turn % 2 * (n / 2) ≤ s ∧ s < turn % 2 * (n / 2) + a)
  zero : next = 0 → turn = 0 ∧ ∀ s, s < n → tailN R sz s = 0
theorem lenF_pos {sz : Nat} (f : List (List UInt8)) (hs : 128 ≤ sz) : 1 ≤ lenF sz f := (secsN_ge (sz - 16) (32 + (bodyB f).length) (by omega) (by omega)).1
theorem Frames.le {R : Nat → List UInt8} {n sz turn : Nat} (hs : 128 ≤ sz) : ∀ {fs : List (List (List UInt8))} {a nx a' : Nat}, Frames R n sz turn a nx fs a' → a ≤ n / 2 → a + fs.length ≤ a' ∧ a' ≤ n / 2
  | [], a, nx, a', h, h0 => by simp only [Frames] at h; subst h; simp; omega
  | f :: fs, a, nx, a', h, h0 => by
    have h1 := Frames.le hs h.2.2.2 h.2.1
    have := lenF_pos f hs
    rw [List.length_cons]
    omega
theorem Frames.congr {R R' : Nat → List UInt8} {n sz turn : Nat} (hs : 128 ≤ sz) : ∀ {fs : List (List (List UInt8))} {a nx a' : Nat}, Frames R n sz turn a nx fs a' → a ≤ n / 2 → (∀ s, turn % 2 * (n / 2) + a ≤ s → s < turn % 2 * (n / 2) + a' → R' s = R s) → Frames R' n sz turn a nx fs a'
  | [], a, nx, a', h, h0, hR => h
  | f :: fs, a, nx, a', h, h0, hR => by
    have h1 := Frames.le hs h.2.2.2 h.2.1
    exact ⟨fun i hi => by rw [hR _ (by omega) (by omega)]; exact h.1 i hi, h.2.1, h.2.2.1, Frames.congr hs h.2.2.2 h.2.1 (fun s q1 q2 => hR s (by omega) q2)⟩
theorem Frames.snoc {R : Nat → List UInt8} {n sz turn : Nat} {g : List (List UInt8)} : ∀ {fs : List (List (List UInt8))} {a nx a' : Nat}, Frames R n sz turn a nx fs a' →
    (∀ i, i < lenF sz g → R (turn % 2 * (n / 2) + a' + i) = secB (sz - 16) turn (nx + fs.length) (frameB turn (nx + fs.length) g) i) → a' + lenF sz g ≤ n / 2 → SmallR g → Frames R n sz turn a nx (fs ++ [g]) (a' + lenF sz g)
  | [], a, nx, a', h, h1, h2, h3 => by
    simp only [Frames] at h
    subst h
    exact ⟨h1, h2, h3, rfl⟩
  | f :: fs, a, nx, a', h, h1, h2, h3 => ⟨h.1, h.2.1, h.2.2.1, Frames.snoc h.2.2.2 (by rw [List.length_cons] at h1; rw [Nat.add_assoc nx 1, Nat.add_comm 1]; exact h1) h2 h3⟩
section
variable {R : Nat → List UInt8} {n sz turn next a : Nat} {rs : List (List UInt8)}
theorem openF_tail {side a nx t bh : Nat} {rs : List (List UInt8)} (h : openF R n sz side a nx = some (t, rs, bh)) : a < n / 2 ∧ tailT R sz (side * (n / 2) + a) = t ∧ tailN R sz (side * (n / 2) + a) = nx + 1 := by
  unfold openF at h
  dsimp only at h
  split at h
  · rename_i hc
    obtain ⟨q, h1, h2⟩ := Option.map_eq_some_iff.1 h
    simp only [Prod.mk.injEq] at h2
    refine ⟨hc.1, ?_, hc.2.2.2.2.1⟩
    unfold tailT
    rw [hc.2.2.2.1]
    exact h2.1
  · cases h
theorem openAll_frames (hs : 128 ≤ sz) (hs2 : sz ≤ 4096) (hn : n ≤ 4096) (ht : turn < 18446744073709551616) : ∀ (fs : List (List (List UInt8))) (a nx a' f : Nat), Frames R n sz turn a nx fs a' → fs.length < f → nx + fs.length + 1 < 18446744073709551616 → stepO R n sz turn a' (nx + fs.length) = none →
    openAll R n sz turn f a nx = (fs.flatten, a', nx + fs.length)
  | [], a, nx, a', 0, h, h1, h2, h3 => by simp at h1
  | [], a, nx, a', f + 1, h, h1, h2, h3 => by
    simp only [Frames] at h
    subst h
    simp only [List.length_nil, Nat.add_zero] at h3
    simp [openAll, h3]
  | g :: fs, a, nx, a', 0, h, h1, h2, h3 => by simp at h1
  | g :: fs, a, nx, a', f + 1, h, h1, h2, h3 => by
    rw [List.length_cons] at h1 h2 h3
    have q := openF_lay R n sz (turn % 2) a turn nx g hs hs2 hn ht (by omega) h.2.2.1 h.2.1 h.1
    have q2 : stepO R n sz turn a nx = some (g, a + lenF sz g) := by
      unfold stepO
      rw [q]
      simp [lenF]
    have h4 := openAll_frames hs hs2 hn ht fs (a + lenF sz g) (nx + 1) a' f h.2.2.2 (by omega) (by omega) (by rw [Nat.add_assoc nx 1, Nat.add_comm 1]; exact h3)
    unfold openAll
    rw [q2]
    simp only [h4, List.flatten_cons, List.length_cons]
    rw [Nat.add_assoc nx 1, Nat.add_comm 1]
theorem LogI.bds (h : LogI R n sz turn next a rs) (hs : 128 ≤ sz) : next ≤ a ∧ a ≤ n / 2 := by
  obtain ⟨fs, h1, h2, h3⟩ := h.fs
  have := Frames.le hs h3 (by omega)
  omega
theorem LogI.stop (h : LogI R n sz turn next a rs) (hn : n ≤ 4096) : stepO R n sz turn a next = none := by
  unfold stepO
  split
  · rename_i t q bh ho
    have h1 := openF_tail ho
    have hm : turn % 2 * (n / 2) + a < n := by
      have : turn % 2 < 2 := Nat.mod_lt _ (by omega)
      rcases Nat.lt_or_ge (turn % 2) 1 with h5 | h5
      · rw [show turn % 2 = 0 from by omega]; omega
      · rw [show turn % 2 = 1 from by omega]; omega
    have h2 := h.tails _ hm
    rw [if_neg]
    rw [h1.2.2, h1.2.1] at h2
    omega
  · rfl
theorem newer_yes {a b : Nat} (h : a < b) (hb : b < 4611686018427387904) : newer a b = true := by
  unfold newer
  rw [show IntKind.i64.wrap (IntKind.u64.wrap ((b : Int) - (a : Int))) = (b : Int) - (a : Int) from by rw [IntKind.wrap_u64, IntKind.wrap_i64]; omega]
  simp
  omega
theorem newer_no {a b : Nat} (h : b < a) (hb : a < 4611686018427387904) : newer a b = false := by
  unfold newer
  have e : IntKind.u64.wrap ((b : Int) - (a : Int)) = (b : Int) - (a : Int) + 18446744073709551616 := by rw [IntKind.wrap_u64]; omega
  rw [e, show IntKind.i64.wrap ((b : Int) - (a : Int) + 18446744073709551616) = (b : Int) - (a : Int) from by rw [IntKind.wrap_i64]; omega]
  simp
  omega
theorem okSide_tail {side t : Nat} (h : okSide R n sz side = some t) : t % 2 = side ∧ 0 < n / 2 ∧ tailT R sz (side * (n / 2)) = t ∧ tailN R sz (side * (n / 2)) = 1 := by
  unfold okSide at h
  split at h
  · rename_i t' q bh ho
    have h1 := openF_tail ho
    split at h
    · rename_i h2
      injection h with h
      subst h
      exact ⟨h2, h1.1, h1.2.1, h1.2.2⟩
    · cases h
  · cases h
/-- A log is opened as it is. -/
theorem LogI.opened (h : LogI R n sz turn next a rs) (hs : 128 ≤ sz) (hs2 : sz ≤ 4096) (hn0 : 16 ≤ n) (hn : n ≤ 4096) (ht : turn < 4611686018427387904) : beginT R n sz = turn ∧ WOpened R n sz = (rs, a, next) := by
  have hb := h.bds hs
  have hT : beginT R n sz = turn := by
    unfold beginT
    by_cases h0 : next = 0
    · have h1 := h.zero h0
      have e : ∀ side, side < 2 → okSide R n sz side = none := by
        intro side hsd
        rcases hq : okSide R n sz side with _ | t
        · rfl
        · exfalso
          have h2 := okSide_tail hq
          have hm : side * (n / 2) < n := by
            rcases Nat.lt_or_ge side 1 with h5 | h5
            · rw [show side = 0 from by omega]; omega
            · rw [show side = 1 from by omega]; omega
          have h3 := h1.2 _ hm
          omega
      rw [h1.1]
      simp [stB, stepB, e 0 (by omega), e 1 (by omega)]
    · obtain ⟨fs, h1, h2, h3⟩ := h.fs
      rcases fs with _ | ⟨g, fs⟩
      · simp at h2; omega
      have q := openF_lay R n sz (turn % 2) 0 turn 0 g hs hs2 hn (by omega) (by omega) h3.2.2.1 h3.2.1 h3.1
      have hok : okSide R n sz (turn % 2) = some turn := by
        unfold okSide
        rw [q]
        simp
      have hoth : ∀ side t, side < 2 → side ≠ turn % 2 → okSide R n sz side = some t → t < turn := by
        intro side t hsd hne hq
        have h2 := okSide_tail hq
        have hm : side * (n / 2) < n := by
          rcases Nat.lt_or_ge side 1 with h5 | h5
          · rw [show side = 0 from by omega]; omega
          · rw [show side = 1 from by omega]; omega
        have h4 := h.tails _ hm
        rw [h2.2.2.1, h2.2.2.2] at h4
        rcases h4 with h4 | h4 | h4
        · omega
        · exact h4
        · exfalso
          have := h2.1
          rw [h4.1] at this
          omega
      rcases Nat.mod_two_eq_zero_or_one turn with h5 | h5
      · rw [h5] at hok
        rcases hq : okSide R n sz 1 with _ | t
        · simp [stB, stepB, hok, hq]
        · have h6 := hoth 1 t (by omega) (by omega) hq
          simp [stB, stepB, hok, hq, newer_no h6 ht]
      · rw [h5] at hok
        rcases hq : okSide R n sz 0 with _ | t
        · simp [stB, stepB, hok, hq]
        · have h6 := hoth 0 t (by omega) (by omega) hq
          simp [stB, stepB, hok, hq, newer_yes h6 ht]
  refine ⟨hT, ?_⟩
  obtain ⟨fs, h1, h2, h3⟩ := h.fs
  unfold WOpened
  rw [hT, openAll_frames hs hs2 hn (by omega) fs 0 0 a (n / 2 + 1) h3 (by omega) (by omega) (by rw [Nat.zero_add, h2]; exact h.stop hn), h1, Nat.zero_add, h2]
/-- The ends of what was laid. -/
theorem lay_tail (R : Nat → List UInt8) (sz turn nx fr k s : Nat) (B : List UInt8) (ht : turn < 18446744073709551616) (hx : nx + 1 < 18446744073709551616) :
    (tailN (layR R (sz - 16) turn nx fr k B 0) sz s = 0 ∧ fr < s ∧ s < fr + k) ∨ (tailT (layR R (sz - 16) turn nx fr k B 0) sz s = turn ∧ s = fr ∧ s < fr + k) ∨
      (tailN (layR R (sz - 16) turn nx fr k B 0) sz s = tailN R sz s ∧ tailT (layR R (sz - 16) turn nx fr k B 0) sz s = tailT R sz s ∧ (s < fr ∨ fr + k ≤ s)) := by
  by_cases h : fr ≤ s ∧ s < fr + k
  · have e : layR R (sz - 16) turn nx fr k B 0 s = secB (sz - 16) turn nx B (s - fr) := by unfold layR; rw [if_pos (by omega)]
    by_cases h0 : s = fr
    · right; left
      refine ⟨?_, h0, h.2⟩
      unfold tailT
      rw [e, secB_drop, if_pos (by omega), List.take_left' (beN_length 8 turn)]
      exact deN_beN 8 _ (by simpa using ht)
    · left
      refine ⟨?_, by omega, h.2⟩
      unfold tailN
      rw [e, secB_drop, if_neg (by omega)]
      rfl
  · right; right
    have e : layR R (sz - 16) turn nx fr k B 0 s = R s := by unfold layR; rw [if_neg (by omega)]
    unfold tailN tailT
    rw [e]
    exact ⟨rfl, rfl, by omega⟩
theorem lay_at (R : Nat → List UInt8) (S turn nx fr k : Nat) (B : List UInt8) (i : Nat) (hi : i < k) : layR R S turn nx fr k B 0 (fr + i) = secB S turn nx B i := by
  unfold layR
  rw [if_pos (by omega), show fr + i - fr = i from by omega]
/-- A fresh disk. -/
theorem LogI.fresh (n sz : Nat) : LogI (fun _ => List.replicate sz 0) n sz 0 0 0 [] := by
  have e : ∀ k, deN (List.replicate k 0) = 0 := by
    intro k
    induction k with
    | zero => rfl
    | succ k ih => rw [List.replicate_succ', deN_snoc, ih]; rfl
  have ez : ∀ s, tailN (fun _ => List.replicate sz 0) sz s = 0 := by
    intro s
    unfold tailN
    rw [List.drop_replicate, List.drop_replicate, e]
  exact ⟨⟨[], rfl, rfl, rfl⟩, fun s _ => .inl (ez s), fun _ => ⟨rfl, fun s _ => ez s⟩⟩
/-- Behind a commit. -/
theorem LogI.commit (h : LogI R n sz turn next a rs) (f : List (List UInt8)) (hs : 128 ≤ sz) (hn : n ≤ 4096) (ht : turn < 4611686018427387904) (hf : a + lenF sz f ≤ n / 2) (hl : SmallR f) :
    LogI (layR R (sz - 16) turn next (turn % 2 * (n / 2) + a) (lenF sz f) (frameB turn next f) 0) n sz turn (next + 1) (a + lenF sz f) (rs ++ f) := by
  obtain ⟨fs, h1, h2, h3⟩ := h.fs
  have hb := h.bds hs
  refine ⟨⟨fs ++ [f], by simp [h1], by simp [h2], ?_⟩, fun s hsn => ?_, fun h0 => by omega⟩
  · refine Frames.snoc (Frames.congr hs h3 (by omega) (fun s q1 q2 => ?_)) (fun i hi => ?_) hf hl
    · unfold layR
      rw [if_neg (by omega)]
    · rw [Nat.zero_add, h2]
      exact lay_at _ _ _ _ _ _ _ i hi
  · rcases lay_tail R sz turn next (turn % 2 * (n / 2) + a) (lenF sz f) s (frameB turn next f) (by omega) (by omega) with q | q | q
    · exact .inl q.1
    · right; right
      omega
    · rw [q.1, q.2.1]
      rcases h.tails s hsn with q2 | q2 | q2
      · exact .inl q2
      · exact .inr (.inl q2)
      · right; right
        omega
/-- Behind a reset. -/
theorem LogI.reset (h : LogI R n sz turn next a rs) (f : List (List UInt8)) (hs : 128 ≤ sz) (hn : n ≤ 4096) (ht : turn < 4611686018427387904) (hf : 0 + lenF sz f ≤ n / 2) (hl : SmallR f) :
    LogI (layR R (sz - 16) (turn + 1) 0 ((turn + 1) % 2 * (n / 2) + 0) (lenF sz f) (frameB (turn + 1) 0 f) 0) n sz (turn + 1) 1 (0 + lenF sz f) f := by
  refine ⟨⟨[f], by simp, rfl, fun i hi => lay_at _ _ _ _ _ _ _ i hi, hf, hl, rfl⟩, fun s hsn => ?_, fun h0 => by omega⟩
  rcases lay_tail R sz (turn + 1) 0 ((turn + 1) % 2 * (n / 2) + 0) (lenF sz f) s (frameB (turn + 1) 0 f) (by omega) (by omega) with q | q | q
  · exact .inl q.1
  · right; right
    omega
  · rw [q.1, q.2.1]
    rcases h.tails s hsn with q2 | q2 | q2
    · exact .inl q2
    · right; left; omega
    · right; left; omega
end

end Go.Proofs.Ytbkncfedahifkaa
