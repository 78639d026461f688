/-
  The statements of layer 4: logs as wholes; known.
-/
import Derived.Test.YtbkncfedahifkaaWSame
import Derived.Lib.SmallJoins
set_option linter.unusedVariables false
set_option linter.unusedSimpArgs false
namespace Go.Proofs.Ytbkncfedahifkaa
open Go.RowKit Go.Maps

theorem RowsO.recs {w : World} {base : Nat} {v : Value} {rs : List (List UInt8)} (h : RowsO w base v rs) (F : List Nat) (hF : ∀ x ∈ F, x < base ∨ w.heap.size ≤ x) : ∃ A c, v = .slice A rs.length c ∧ Recs w F A rs.length c rs := by
  obtain ⟨vs, h1, h2⟩ := h
  obtain ⟨A, c, rfl⟩ := own_slice h1
  refine ⟨A, c, rfl, ⟨vs, own_rd h1, fun i hi => ?_⟩, rfl, fun a ha hm => ?_⟩
  · obtain ⟨u, q1, A', n', c', rfl, q2, q3⟩ := h2 i hi
    exact ⟨_, q1, A', n', c', rfl, q2, fun a ha hm => by have := (q3 a ha).1; have := (q3 a ha).2.1; have := hF _ hm; omega⟩
  · subst ha
    have := own_ge h1 a.block rfl
    have := own_lt h1 a.block rfl
    have := hF _ hm
    omega
/-- A log, and what it holds. -/
def Logg (w : World) (lb um b g m : Nat) (X : List Nat) (n sz turn a : Nat) (rs : List (List UInt8)) : Prop := ∃ R next, LogS w lb um b g m X n sz R turn next a rs.length ∧ LogI R n sz turn next a rs
/-- A disk that holds a log. -/
def Logd (w : World) (b g m : Nat) (X : List Nat) (n sz turn a : Nat) (rs : List (List UInt8)) : Prop := ∃ R next, Live w b g m X n sz R ∧ LogI R n sz turn next a rs
section
variable {w w' : World} {lb um b g m n sz turn a : Nat} {X : List Nat} {rs : List (List UInt8)}
theorem Logg.keep (h : Logg w lb um b g m X n sz turn a rs) (hc : Ch X w w') : Logg w' lb um b g m X n sz turn a rs := by
  obtain ⟨R, next, h1, h2⟩ := h
  exact ⟨R, next, h1.keep hc, h2⟩
theorem Logg.nil (h : Logg w lb um b g m X n sz turn a rs) (hc : Ch [] w w') : Logg w' lb um b g m X n sz turn a rs := h.keep (hc.mono (by simp))
theorem Logd.nil (h : Logd w b g m X n sz turn a rs) (hc : Ch [] w w') : Logd w' b g m X n sz turn a rs := by
  obtain ⟨R, next, h1, h2⟩ := h
  exact ⟨R, next, h1.nil hc, h2⟩
theorem Logg.disk (h : Logg w lb um b g m X n sz turn a rs) : Logd w b g m (lb :: um :: X) n sz turn a rs := by
  obtain ⟨R, next, h1, h2⟩ := h
  exact ⟨R, next, h1.live, h2⟩
theorem Logd.sub (h : Logd w b g m X n sz turn a rs) {Y : List Nat} (hY : ∀ x ∈ Y, x ∈ X) : Logd w b g m Y n sz turn a rs := by
  obtain ⟨R, next, h1, h2⟩ := h
  exact ⟨R, next, h1.sub hY, h2⟩
theorem Logd.lts (h : Logd w b g m X n sz turn a rs) : b < w.heap.size ∧ g < w.heap.size ∧ m < w.heap.size := by
  obtain ⟨R, next, h1, h2⟩ := h
  exact h1.lts
theorem newdisk_any (n sz : Nat) (X : List Nat) (w : World) (hX : ∀ x ∈ X, x < w.heap.size) (hn0 : 1 ≤ n) (hn1 : n ≤ 4096) (hs0 : 64 ≤ sz) (hs1 : sz ≤ 4096) :
    Calls Try.prog 42 #[.int .i64 (n : Int), .int .i64 (sz : Int)] w fun e w' => ∃ b g m, e = .returned (.pointer (some ⟨b, 0, none⟩)) ∧ w.heap.size ≤ b ∧ w.heap.size ≤ g ∧ w.heap.size ≤ m ∧
      Logd w' b g m X n sz 0 0 [] ∧ Ch [] w w' := by
  refine (new_live_any n sz X w hX hn0 hn1 hs0 hs1).mono ?_
  rintro e w1 ⟨b, g, m, rfl, h1, h2, h3, h4, h5⟩
  exact ⟨b, g, m, rfl, h1, h2, h3, ⟨_, 0, h4, LogI.fresh n sz⟩, h5⟩
theorem openlog_any (w : World) (h : Logd w b g m X n sz turn a rs) (hX : ∀ x ∈ X, x < w.heap.size) (hn : 16 ≤ n) (hsz : 128 ≤ sz) (ht : turn < 4611686018427387904) :
    Calls Try.prog 56 #[.pointer (some ⟨b, 0, none⟩)] w fun e w' => ∃ lb um A c, e = .returned (.tuple #[.pointer (some ⟨lb, 0, none⟩), .slice A rs.length c, .int .i64 0]) ∧ w.heap.size ≤ lb ∧ w.heap.size ≤ um ∧
      Logg w' lb um b g m X n sz turn a rs ∧ RowsO w' w.heap.size (.slice A rs.length c) rs ∧ Ch [] w w' := by
  obtain ⟨R, next, h1, h2⟩ := h
  have hb := h1.bds
  have ho := h2.opened hsz hb.2.1 hn hb.2.2.2 ht
  refine (wopen_any b g m n sz X R w h1 hX hn hsz).mono ?_
  rintro e w1 ⟨lb, um, v, rfl, q1, q2, q3, q4, q5⟩
  rw [ho.1, ho.2] at q3
  rw [ho.2] at q4
  obtain ⟨A, c, rfl, _⟩ := q4.recs [] (by simp)
  exact ⟨lb, um, A, c, rfl, q1, q2, ⟨R, next, q3, h2⟩, q4, q5⟩
theorem commitE_small {rs : List (List UInt8)} (h : rs.any longB = false) : SmallR rs := by
  intro r hr
  have := List.any_eq_false.1 h r hr
  simp [longB] at this
  omega
theorem commit_any (A : Option Addr) (k c : Nat) (f : List (List UInt8)) (w : World) (h : Logg w lb um b g m X n sz turn a rs) (hX : ∀ x ∈ X, x < w.heap.size) (hr : Recs w [lb, b, g, m, um] A k c f) (hk : k ≤ 1000000) (hlen : ∀ r ∈ f, r.length ≤ 1000000000000) (ht : turn < 4611686018427387904) (hf : commitE n sz a f = 0) (hC : rs.length < 4000000000000000000) :
    Calls Try.prog 57 #[.pointer (some ⟨lb, 0, none⟩), .slice A k c] w fun e w' => e = .returned (.int .i64 0) ∧ Logg w' lb um b g m X n sz turn (a + lenF sz f) (rs ++ f) ∧ Ch [lb, b, g, m, um] w w' := by
  obtain ⟨R, next, h1, h2⟩ := h
  have hb := h1.bds
  have hz := commitE_zero hf
  have hb2 := h2.bds h1.s128
  have hfit : a + lenF sz f ≤ n / 2 := by
    have h3 := secsN_le (sz - 16) (32 + (bodyB f).length) (n / 2 - a) (by omega) hz.2
    unfold lenF
    omega
  refine (wcommit_ok A k c _ f w h1 hX hr hk hlen hf (by omega) hC).mono ?_
  rintro e w1 ⟨rfl, q1, q2⟩
  exact ⟨rfl, ⟨_, next + 1, by rw [List.length_append]; exact q1, h2.commit f h1.s128 hb.2.1 ht hfit (commitE_small hz.1)⟩, q2⟩
theorem commit_no (A : Option Addr) (k c : Nat) (F : List Nat) (f : List (List UInt8)) (w : World) (h : Logg w lb um b g m X n sz turn a rs) (hr : Recs w F A k c f) (hk : k ≤ 1000000) (hlen : ∀ r ∈ f, r.length ≤ 1000000000000) (hf : commitE n sz a f ≠ 0) :
    Calls Try.prog 57 #[.pointer (some ⟨lb, 0, none⟩), .slice A k c] w fun e w' => e = .returned (.int .i64 (commitE n sz a f)) ∧ Ch [] w w' := by
  obtain ⟨R, next, h1, h2⟩ := h
  exact wcommit_bad A k c F f w h1 hr hk hlen hf
theorem reset_any (A : Option Addr) (k c : Nat) (f : List (List UInt8)) (w : World) (h : Logg w lb um b g m X n sz turn a rs) (hX : ∀ x ∈ X, x < w.heap.size) (hr : Recs w [lb, b, g, m, um] A k c f) (hk : k ≤ 1000000) (hlen : ∀ r ∈ f, r.length ≤ 1000000000000) (ht : turn < 4611686018427387904) (hf : commitE n sz 0 f = 0) :
    Calls Try.prog 61 #[.pointer (some ⟨lb, 0, none⟩), .slice A k c] w fun e w' => e = .returned (.int .i64 0) ∧ Logg w' lb um b g m X n sz (turn + 1) (lenF sz f) f ∧ Ch [lb, b, g, m, um] w w' := by
  obtain ⟨R, next, h1, h2⟩ := h
  have hb := h1.bds
  have hz := commitE_zero hf
  have hfit : 0 + lenF sz f ≤ n / 2 := by
    have h3 := secsN_le (sz - 16) (32 + (bodyB f).length) (n / 2 - 0) (by omega) hz.2
    unfold lenF
    omega
  refine (wreset_ok A k c _ f w h1 hX hr hk hlen hf ht).mono ?_
  rintro e w1 ⟨rfl, q1, q2⟩
  have q3 := h2.reset f h1.s128 hb.2.1 ht hfit (commitE_small hz.1)
  rw [Nat.zero_add (lenF sz f)] at q3
  unfold lenF at q3 ⊢
  rw [Nat.zero_add (secsN _ _)] at q1
  exact ⟨rfl, ⟨_, 1, q1, q3⟩, q2⟩
theorem reset_no (A : Option Addr) (k c : Nat) (F : List Nat) (f : List (List UInt8)) (w : World) (h : Logg w lb um b g m X n sz turn a rs) (hr : Recs w F A k c f) (hk : k ≤ 1000000) (hlen : ∀ r ∈ f, r.length ≤ 1000000000000) (hf : commitE n sz 0 f ≠ 0) (ht : turn < 4611686018427387904) :
    Calls Try.prog 61 #[.pointer (some ⟨lb, 0, none⟩), .slice A k c] w fun e w' => e = .returned (.int .i64 (commitE n sz 0 f)) ∧ Ch [] w w' := by
  obtain ⟨R, next, h1, h2⟩ := h
  exact wreset_bad A k c F f w h1 hr hk hlen hf ht
theorem count_any (w : World) (h : Logg w lb um b g m X n sz turn a rs) : Calls Try.prog 60 #[.pointer (some ⟨lb, 0, none⟩)] w fun e w' => e = .returned (.int .i64 (rs.length : Int)) ∧ w = w' := by
  obtain ⟨R, next, h1, h2⟩ := h
  exact wcount w h1
theorem room_any (w : World) (h : Logg w lb um b g m X n sz turn a rs) : Calls Try.prog 63 #[.pointer (some ⟨lb, 0, none⟩)] w fun e w' => e = .returned (.int .i64 (roomN n sz a : Int)) ∧ w = w' := by
  obtain ⟨R, next, h1, h2⟩ := h
  exact wroom w h1
theorem Logg.out (h : Logg w lb um b g m X n sz turn a rs) : lb < w.heap.size ∧ um < w.heap.size ∧ b < w.heap.size ∧ g < w.heap.size ∧ m < w.heap.size := by
  obtain ⟨R, next, h1, h2⟩ := h
  have h3 := h1.live.lts
  have h4 := lt_of_at h1.cells
  have h5 := h1.map
  exact ⟨h4, h5.lt, h3⟩
end
/-- Bytes in a block. -/
theorem rd_block {w : World} {b : Nat} {t : TypeId} {fr : Nat × Nat} (L : List UInt8) (h : w.heap[b]? = some (.cells (bvs L).toArray t fr)) (hl : L.length ≤ maxLen) : RdB w (some ⟨b, 0, none⟩) L.length L.length L :=
  ⟨by rw [bvs_length]; omega, Nat.le_refl _, hl, fun _ => ⟨b, 0, rfl, fun j u hu => by rw [Nat.zero_add]; exact cell_at h j (by simpa using hu)⟩⟩

end Go.Proofs.Ytbkncfedahifkaa
