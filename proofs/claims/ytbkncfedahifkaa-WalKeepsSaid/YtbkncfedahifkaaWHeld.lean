/-
  Records that are held beside a log: their blocks are none of F, and are there.
-/
import Derived.Test.YtbkncfedahifkaaWalTogether
set_option linter.unusedVariables false
set_option linter.unusedSimpArgs false
namespace Go.Proofs.Ytbkncfedahifkaa
open Go.RowKit Go.Maps

def Out (w : World) (F : List Nat) (A : Option Addr) : Prop := ∀ a, A = some a → a.block ∉ F ∧ a.block < w.heap.size
theorem Out.keep {w w' : World} {F G : List Nat} {A : Option Addr} (h : Out w F A) (hc : Ch G w w') : Out w' F A := fun a ha => ⟨(h a ha).1, Nat.lt_of_lt_of_le (h a ha).2 hc.size⟩
theorem Out.add {w : World} {F : List Nat} {x : Nat} {A : Option Addr} (h : Out w F A) (hx : w.heap.size ≤ x) : Out w (x :: F) A := fun a ha => ⟨by have := h a ha; simp only [List.mem_cons, not_or]; exact ⟨by omega, this.1⟩, (h a ha).2⟩
theorem Out.sub {w : World} {F G : List Nat} {A : Option Addr} (h : Out w F A) (hG : ∀ x ∈ G, x ∈ F) : Out w G A := fun a ha => ⟨fun hg => (h a ha).1 (hG _ hg), (h a ha).2⟩
/-- A record in a slice. -/
def RowH (w : World) (F : List Nat) (u : Value) (l : List UInt8) : Prop := ∃ A n c, u = .slice A n c ∧ RdB w A n c l ∧ Out w F A
/-- Records in a slice. -/
def Held (w : World) (F : List Nat) (v : Value) (rs : List (List UInt8)) : Prop :=
  ∃ A c vs, v = .slice A rs.length c ∧ Rd 1 w A rs.length c vs ∧ Out w F A ∧ ∀ (i : Nat) (h : i < rs.length), ∃ u, vs[i]? = some u ∧ RowH w F u rs[i]
section
variable {w w' : World} {F G : List Nat} {v u : Value} {rs : List (List UInt8)} {l : List UInt8}
theorem RowH.keep (h : RowH w F u l) (hc : Ch G w w') (hG : ∀ x ∈ G, x ∈ F ∨ w.heap.size ≤ x) : RowH w' F u l := by
  obtain ⟨A, n, c, rfl, h1, h2⟩ := h
  exact ⟨A, n, c, rfl, h1.keep hc (fun a ha hg => by rcases hG _ hg with h | h; exact (h2 a ha).1 h; have := (h2 a ha).2; omega), h2.keep hc⟩
theorem RowH.add (h : RowH w F u l) {x : Nat} (hx : w.heap.size ≤ x) : RowH w (x :: F) u l := by
  obtain ⟨A, n, c, rfl, h1, h2⟩ := h
  exact ⟨A, n, c, rfl, h1, h2.add hx⟩
theorem RowH.sub (h : RowH w F u l) (hG : ∀ x ∈ G, x ∈ F) : RowH w G u l := by
  obtain ⟨A, n, c, rfl, h1, h2⟩ := h
  exact ⟨A, n, c, rfl, h1, h2.sub hG⟩
theorem Held.keep (h : Held w F v rs) (hc : Ch G w w') (hG : ∀ x ∈ G, x ∈ F ∨ w.heap.size ≤ x) : Held w' F v rs := by
  obtain ⟨A, c, vs, rfl, h1, h2, h3⟩ := h
  refine ⟨A, c, vs, rfl, h1.keep hc (fun a ha hg => by rcases hG _ hg with h | h; exact (h2 a ha).1 h; have := (h2 a ha).2; omega), h2.keep hc, fun i hi => ?_⟩
  obtain ⟨u, q1, q2⟩ := h3 i hi
  exact ⟨u, q1, q2.keep hc hG⟩
theorem Held.nil (h : Held w F v rs) (hc : Ch [] w w') : Held w' F v rs := h.keep hc (by simp)
theorem Held.add (h : Held w F v rs) {x : Nat} (hx : w.heap.size ≤ x) : Held w (x :: F) v rs := by
  obtain ⟨A, c, vs, rfl, h1, h2, h3⟩ := h
  refine ⟨A, c, vs, rfl, h1, h2.add hx, fun i hi => ?_⟩
  obtain ⟨u, q1, q2⟩ := h3 i hi
  exact ⟨u, q1, q2.add hx⟩
theorem Held.sub (h : Held w F v rs) (hG : ∀ x ∈ G, x ∈ F) : Held w G v rs := by
  obtain ⟨A, c, vs, rfl, h1, h2, h3⟩ := h
  refine ⟨A, c, vs, rfl, h1, h2.sub hG, fun i hi => ?_⟩
  obtain ⟨u, q1, q2⟩ := h3 i hi
  exact ⟨u, q1, q2.sub hG⟩
theorem Held.empty (w : World) (F : List Nat) : Held w F (.slice none 0 0) [] := ⟨none, 0, [], rfl, Rd.empty 1 w none 0 (by omega), by simp [Out], fun i hi => by simp at hi⟩
theorem Held.recs (h : Held w F v rs) : ∃ A c, v = .slice A rs.length c ∧ Recs w F A rs.length c rs := by
  obtain ⟨A, c, vs, rfl, h1, h2, h3⟩ := h
  refine ⟨A, c, rfl, ⟨vs, h1, fun i hi => ?_⟩, rfl, fun a ha => (h2 a ha).1⟩
  obtain ⟨u, q1, A', n', c', rfl, q2, q3⟩ := h3 i hi
  exact ⟨_, q1, A', n', c', rfl, q2, fun a ha => (q3 a ha).1⟩
theorem RowsO.held {base : Nat} (h : RowsO w base v rs) (hF : ∀ x ∈ F, x < base ∨ w.heap.size ≤ x) : Held w F v rs := by
  obtain ⟨vs, h1, h2⟩ := h
  obtain ⟨A, c, rfl⟩ := own_slice h1
  refine ⟨A, c, vs, rfl, own_rd h1, fun a ha => ?_, fun i hi => ?_⟩
  · subst ha
    have := own_ge h1 a.block rfl
    have := own_lt h1 a.block rfl
    exact ⟨fun hm => by have := hF _ hm; omega, this⟩
  · obtain ⟨u, q1, A', n', c', rfl, q2, q3⟩ := h2 i hi
    exact ⟨_, q1, A', n', c', rfl, q2, fun a ha => ⟨fun hm => by have := (q3 a ha).1; have := (q3 a ha).2.1; have := hF _ hm; omega, (q3 a ha).2.1⟩⟩
/-- A slice of one's own, whose elements are held. -/
theorem own_held {base : Nat} {vs : List Value} (h1 : w.ownsRow base 28 1 v rs.length vs) (hF : ∀ x ∈ F, x < base ∨ w.heap.size ≤ x) (h : ∀ (i : Nat) (h : i < rs.length), ∃ u, vs[i]? = some u ∧ RowH w F u rs[i]) : Held w F v rs := by
  obtain ⟨A, c, rfl⟩ := own_slice h1
  refine ⟨A, c, vs, rfl, own_rd h1, fun a ha => ?_, h⟩
  subst ha
  have := own_ge h1 a.block rfl
  have := own_lt h1 a.block rfl
  exact ⟨fun hm => by have := hF _ hm; omega, this⟩
theorem Held.one (h : Held w F v rs) : ∃ A c vs, v = .slice A rs.length c ∧ Rd 1 w A rs.length c vs ∧ (∀ u ∈ vs, u.oneCell' = true) ∧ ∀ (i : Nat) (h : i < rs.length), ∃ u, vs[i]? = some u ∧ RowH w F u rs[i] := by
  obtain ⟨A, c, vs, rfl, h1, h2, h3⟩ := h
  refine ⟨A, c, vs, rfl, h1, fun u hu => ?_, h3⟩
  obtain ⟨i, hi⟩ := List.getElem?_of_mem hu
  have hl := h1.len
  obtain ⟨u', q1, A', n', c', rfl, q2, q3⟩ := h3 i (by have := (List.getElem?_eq_some_iff.1 hi).1; omega)
  rw [hi] at q1
  injection q1 with q1
  subst q1
  rfl
theorem held_app {vs us : List Value} {fs : List (List UInt8)} (hvl : vs.length = rs.length) (h1 : ∀ (i : Nat) (h : i < rs.length), ∃ u, vs[i]? = some u ∧ RowH w F u rs[i]) (h2 : ∀ (i : Nat) (h : i < fs.length), ∃ u, us[i]? = some u ∧ RowH w F u fs[i]) :
    ∀ (i : Nat) (h : i < (rs ++ fs).length), ∃ u, (vs ++ us)[i]? = some u ∧ RowH w F u (rs ++ fs)[i] := by
  intro i hi
  rw [List.length_append] at hi
  by_cases hlt : i < rs.length
  · obtain ⟨u, q1, q2⟩ := h1 i hlt
    exact ⟨u, by rw [List.getElem?_append_left (by omega)]; exact q1, by rw [List.getElem_append_left hlt]; exact q2⟩
  · obtain ⟨u, q1, q2⟩ := h2 (i - rs.length) (by omega)
    exact ⟨u, by rw [List.getElem?_append_right (by omega), hvl]; exact q1, by rw [List.getElem_append_right (by omega)]; exact q2⟩
end

/-! ### the room -/
def sizeL (rs : List (List UInt8)) : Nat := (rs.map fun r => r.length + 16).sum
theorem sizeL_cons (r : List UInt8) (rs : List (List UInt8)) : sizeL (r :: rs) = r.length + 16 + sizeL rs := by simp [sizeL]
theorem body_size : ∀ rs : List (List UInt8), (bodyB rs).length + 12 * rs.length = sizeL rs
  | [] => by simp [bodyB, sizeL]
  | r :: rs => by
    have := body_size rs
    rw [bodyB_cons, sizeL_cons, List.length_cons]
    omega
theorem commitE_two (n sz a : Nat) (rs : List (List UInt8)) (h : ∀ r ∈ rs, r.length ≤ 255) : (commitE n sz a rs = 0 ∧ 32 + (bodyB rs).length ≤ (n / 2 - a) * (sz - 16)) ∨ (commitE n sz a rs = 40 ∧ (n / 2 - a) * (sz - 16) < 32 + (bodyB rs).length) := by
  by_cases hf : 32 + (bodyB rs).length ≤ (n / 2 - a) * (sz - 16)
  · exact .inl ⟨commitE_fit n sz a rs h hf, hf⟩
  · exact .inr ⟨commitE_full n sz a rs (fun r hr => by have := h r hr; omega) (by omega), by omega⟩
theorem keeps_open (k : Nat) (hk : 60 ≤ k) : k * 64 ≤ roomN k 256 0 + 1024 := by unfold roomN; omega
theorem keeps_reset (k : Nat) (rs : List (List UInt8)) (hk : 60 ≤ k) (h : (k / 2 - 0) * (256 - 16) < 32 + (bodyB rs).length) : k * 64 < sizeL rs + 1536 := by have := body_size rs; omega
theorem keeps_full (k a : Nat) (rs : List (List UInt8)) (h : (k / 2 - a) * (256 - 16) < 32 + (bodyB rs).length) : roomN k 256 a < sizeL rs + 512 := by have := body_size rs; unfold roomN; omega
theorem keeps_fit (k a : Nat) (rs : List (List UInt8)) (h : 32 + (bodyB rs).length ≤ (k / 2 - a) * (256 - 16)) : roomN k 256 a ≤ roomN k 256 (a + lenF 256 rs) + sizeL rs + 512 := by
  have := body_size rs
  have h2 : lenF 256 rs * 240 ≤ 32 + (bodyB rs).length + 239 := by
    unfold lenF secsN
    omega
  have h3 := lenF_le rs (k / 2 - a) (by omega)
  unfold roomN
  omega

end Go.Proofs.Ytbkncfedahifkaa
