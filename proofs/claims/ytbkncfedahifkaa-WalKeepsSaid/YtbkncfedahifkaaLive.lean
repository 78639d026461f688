/-
  A disk with power, told by what is read of it.
-/
import Derived.Test.YtbkncfedahifkaaDPlain
import Derived.Test.YtbkncfedahifkaaDraw
set_option linter.unusedVariables false
set_option linter.unusedSimpArgs false
namespace Go.Proofs.Ytbkncfedahifkaa
open Go.RowKit Go.Maps

/-- A disk with power: n sectors of sz bytes, that read as R tells. -/
def Live (w : World) (b g m : Nat) (X : List Nat) (n sz : Nat) (R : Nat → List UInt8) : Prop :=
  ∃ d, IsDisk w b g m X d ∧ d.live ∧ d.sure.length = n ∧ d.sz = sz ∧ ∀ i, i < n → d.read i = R i
def upd (R : Nat → List UInt8) (i : Nat) (l : List UInt8) : Nat → List UInt8 := fun j => if j = i then l else R j

section
variable {w w' : World} {b g m n sz : Nat} {X : List Nat} {R : Nat → List UInt8}
theorem Live.keep (h : Live w b g m X n sz R) (hc : Ch X w w') : Live w' b g m X n sz R := by
  obtain ⟨d, h1, h2⟩ := h
  exact ⟨d, h1.keep hc, h2⟩
theorem Live.nil (h : Live w b g m X n sz R) (hc : Ch [] w w') : Live w' b g m X n sz R := h.keep (hc.mono (by simp))
theorem Live.add (h : Live w b g m X n sz R) {x : Nat} (hx : w.heap.size ≤ x) : Live w b g m (x :: X) n sz R := by
  obtain ⟨d, h1, h2⟩ := h
  exact ⟨d, h1.add hx, h2⟩
theorem Live.sub (h : Live w b g m X n sz R) {Y : List Nat} (hY : ∀ x ∈ Y, x ∈ X) : Live w b g m Y n sz R := by
  obtain ⟨d, h1, h2⟩ := h
  exact ⟨d, h1.sub hY, h2⟩
theorem Live.lts (h : Live w b g m X n sz R) : b < w.heap.size ∧ g < w.heap.size ∧ m < w.heap.size := by
  obtain ⟨d, ⟨c, vs, D, h⟩, _⟩ := h
  exact ⟨h.blt, h.glt, h.mlt⟩
theorem Live.bds (h : Live w b g m X n sz R) : 64 ≤ sz ∧ sz ≤ 4096 ∧ 1 ≤ n ∧ n ≤ 4096 := by
  obtain ⟨d, ⟨c, vs, D, h⟩, _, hn, hz, _⟩ := h
  have h1 := h.sz0
  have h2 := h.sz1
  have h3 := h.n0
  have h4 := h.n1
  omega
theorem Live.outs (h : Live w b g m X n sz R) : b ≠ g ∧ b ≠ m ∧ g ≠ m ∧ b ∉ X ∧ g ∉ X ∧ m ∉ X := by
  obtain ⟨d, ⟨c, vs, D, h⟩, _⟩ := h
  exact ⟨h.bg, h.bm, h.gm, h.bX, h.gX, h.mX⟩
theorem Live.len (h : Live w b g m X n sz R) (i : Nat) (hi : i < n) : (R i).length = sz := by
  obtain ⟨d, ⟨c, vs, D, h⟩, hl, rfl, rfl, hR⟩ := h
  rw [← hR i hi]
  unfold Dsk.read
  cases hd : d.dirty i with
  | some l =>
    obtain ⟨_, v, _, hs⟩ := h.some_ i l hi hd
    exact hs.length
  | none =>
    obtain ⟨v, _, hs⟩ := h.sureV i hi
    have := hs.length
    simpa [List.getD, hi] using this
theorem Live.congr (h : Live w b g m X n sz R) {R' : Nat → List UInt8} (hR : ∀ i, i < n → R i = R' i) : Live w b g m X n sz R' := by
  obtain ⟨d, h1, h2, h3, h4, h5⟩ := h
  exact ⟨d, h1, h2, h3, h4, fun i hi => (h5 i hi).trans (hR i hi)⟩
end

theorem live_sectors (b g m : Nat) (X : List Nat) (n sz : Nat) (R : Nat → List UInt8) (w : World) (h : Live w b g m X n sz R) :
    Calls Try.prog 43 #[.pointer (some ⟨b, 0, none⟩)] w fun e w' => e = .returned (.int .i64 (n : Int)) ∧ w = w' := by
  obtain ⟨d, h1, _, rfl, _⟩ := h
  exact sectors_any b g m X d w h1
theorem live_size (b g m : Nat) (X : List Nat) (n sz : Nat) (R : Nat → List UInt8) (w : World) (h : Live w b g m X n sz R) :
    Calls Try.prog 44 #[.pointer (some ⟨b, 0, none⟩)] w fun e w' => e = .returned (.int .i64 (sz : Int)) ∧ w = w' := by
  obtain ⟨d, h1, _, _, rfl, _⟩ := h
  exact size_any b g m X d w h1
theorem live_read (b g m : Nat) (X : List Nat) (n sz : Nat) (R : Nat → List UInt8) (i : Nat) (w : World) (h : Live w b g m X n sz R) (hi : i < n) :
    Calls Try.prog 49 #[.pointer (some ⟨b, 0, none⟩), .int .i64 (i : Int)] w fun e w' => ∃ x c, e = .returned (.tuple #[.slice (some ⟨x, 0, none⟩) sz c, .int .i64 0]) ∧ w.heap.size ≤ x ∧ x < w'.heap.size ∧
      w'.ownsRow w.heap.size 5 1 (.slice (some ⟨x, 0, none⟩) sz c) sz (bvs (R i)) ∧ Ch [] w w' := by
  have hl := h.len i hi
  have hbd := h.bds
  obtain ⟨d, h1, h2, rfl, rfl, h5⟩ := h
  refine (read_any b g m X d i w h1 (live_at h2 i hi)).mono ?_
  rintro e w' ⟨v, rfl, ho, hc⟩
  rw [h5 i hi] at ho
  obtain ⟨x, c, rfl, hx1, hx2, hrow⟩ := ho.get (by omega)
  rw [hl] at hrow
  exact ⟨x, c, by rw [hl], hx1, hx2, hrow, hc⟩
theorem live_write_any (b g m : Nat) (X : List Nat) (n sz : Nat) (R : Nat → List UInt8) (i : Nat) (A : Option Addr) (c : Nat) (l : List UInt8) (w : World) (h : Live w b g m X n sz R) (hX : ∀ x ∈ X, x < w.heap.size) (hr : RdB w A sz c l) (hi : i < n) :
    Calls Try.prog 45 #[.pointer (some ⟨b, 0, none⟩), .int .i64 (i : Int), .slice A sz c] w fun e w' => e = .returned (.int .i64 0) ∧ Live w' b g m X n sz (upd R i l) ∧ Ch [b, m] w w' := by
  obtain ⟨d, h1, h2, rfl, rfl, h5⟩ := h
  have hw := write_any b g m X d (i : Int) A _ c l w h1 hX hr
  rw [live_write h2 i hi l hr.length] at hw
  refine hw.mono ?_
  rintro e w' ⟨rfl, h6, h7⟩
  refine ⟨rfl, ⟨_, h6, put_live h2 i l, rfl, rfl, fun j hj => ?_⟩, h7⟩
  rw [put_read, upd]
  split
  · rfl
  · exact h5 j hj
theorem live_flush_any (b g m : Nat) (X : List Nat) (n sz : Nat) (R : Nat → List UInt8) (w : World) (h : Live w b g m X n sz R) :
    Calls Try.prog 47 #[.pointer (some ⟨b, 0, none⟩)] w fun e w' => e = .returned (.int .i64 0) ∧ Live w' b g m X n sz R ∧ Ch [b, g, m] w w' := by
  obtain ⟨d, h1, h2, rfl, rfl, h5⟩ := h
  have hw := flush_any b g m X d w h1
  rw [live_flush h2] at hw
  refine hw.mono ?_
  rintro e w' ⟨rfl, h6, h7⟩
  obtain ⟨k1, k2, _⟩ := settled_keeps d resFlush
  exact ⟨rfl, ⟨_, h6, settled_live h2 _, k2, k1, fun j hj => by rw [flush_read d j hj]; exact h5 j hj⟩, h7⟩
theorem new_live_any (n sz : Nat) (X : List Nat) (w : World) (hX : ∀ x ∈ X, x < w.heap.size) (hn0 : 1 ≤ n) (hn1 : n ≤ 4096) (hs0 : 64 ≤ sz) (hs1 : sz ≤ 4096) :
    Calls Try.prog 42 #[.int .i64 (n : Int), .int .i64 (sz : Int)] w fun e w' => ∃ b g m, e = .returned (.pointer (some ⟨b, 0, none⟩)) ∧ w.heap.size ≤ b ∧ w.heap.size ≤ g ∧ w.heap.size ≤ m ∧
      Live w' b g m X n sz (fun _ => List.replicate sz 0) ∧ Ch [] w w' := by
  refine (new_any n sz X w hX).mono ?_
  rintro e w' ⟨b, g, m, rfl, h1, h2, h3, h4, h5⟩
  have e1 : (min (max (n : Int) 1) 4096).toNat = n := by omega
  have e2 : (min (max (sz : Int) 64) 4096).toNat = sz := by omega
  rw [e1, e2] at h4
  exact ⟨b, g, m, rfl, h1, h2, h3, ⟨_, h4, new_live _ _, by simp [Dsk.new], rfl, fun i hi => by simp [Dsk.read, Dsk.new, List.getD, hi]⟩, h5⟩

end Go.Proofs.Ytbkncfedahifkaa
