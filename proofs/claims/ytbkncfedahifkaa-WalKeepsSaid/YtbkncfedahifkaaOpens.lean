/-
  Arguments that are slices, opened: as a slice that is read.
-/
import Derived.Test.YtbkncfedahifkaaBase
import Derived.Deep.Slices
import Derived.Deep.Strs
import Derived.ChangeSame
set_option linter.unusedVariables false
namespace Go.Proofs.Ytbkncfedahifkaa
open Go.ChangeShapes Go.WideShapes Go.Deep

theorem flatMap_even {α : Type} (f : α → List Value) (sz : Nat) (hf : ∀ a, (f a).length = sz) (l : List α) : (l.flatMap f).length = l.length * sz := by
  induction l with
  | nil => simp
  | cons a l ih => rw [List.flatMap_cons, List.length_append, hf, ih, List.length_cons, Nat.add_mul, Nat.one_mul, Nat.add_comm]
theorem flatMap_even_get {α : Type} (f : α → List Value) (sz : Nat) (hf : ∀ a, (f a).length = sz) (l : List α) : ∀ (k : Nat) (h : k < l.length) (i : Nat), i < sz → (l.flatMap f)[k * sz + i]? = (f l[k])[i]? := by
  induction l with
  | nil => intro k h; simp at h
  | cons a l ih =>
    intro k h i hi
    rw [List.flatMap_cons]
    cases k with
    | zero => rw [List.getElem?_append_left (by rw [hf]; omega)]; simp
    | succ k =>
      have e0 : (k + 1) * sz = k * sz + sz := by rw [Nat.add_mul, Nat.one_mul]
      rw [List.getElem?_append_right (by rw [hf]; omega), hf, show (k + 1) * sz + i - sz = k * sz + i from by omega, ih k (by simpa using h) i hi]
      rfl

section
variable {H : Type} {enc : TypeId × Value → H} {P : Program} {w : World} {base : Nat} {sp : Nat → Bool} {held : Bool}
/-- A slice of elements of sz cells each. -/
theorem rd_open {t e : TypeId} {sz : Nat} {α : Type} (f : α → List Value) (q : α → Prop) (ht : P.underlying t = some (.slice e)) (hc : P.cellsOf e = sz) (hf : ∀ a, (f a).length = sz) (hsz : 0 < sz)
    (hopen : ∀ n cs x, DataW.trod enc P w base sp held n e cs = some x → cs.length = sz → ∃ a, cs = f a ∧ q a)
    {A : Option Addr} {n c : Nat} {d : DataW H} {p : List MemPlace} (h : DataW.Trod enc P w base sp held t (.slice A n c) d p) :
    ∃ l : List α, l.length = n ∧ Rd sz w A n c (l.flatMap f) ∧ ∀ a ∈ l, q a := by
  obtain ⟨fuel, hfu⟩ := h
  rcases open_slice ht hfu with ⟨hcs, _⟩ | ⟨a, len, cap, m, k, D, Pl, hcs, hb, hl, hm, hmm, hx, hi⟩
  · simp [Value.cells] at hcs
    obtain ⟨rfl, rfl, rfl⟩ := hcs
    exact ⟨[], rfl, Rd.empty _ _ _ _ (Nat.zero_le _), by simp⟩
  · simp [Value.cells] at hcs
    obtain ⟨rfl, rfl, rfl⟩ := hcs
    have hlm : n ≤ m := by rw [hmm]; split <;> omega
    rw [hc] at hi
    have each : ∀ i, i < n → ∃ y : α, q y ∧ ∀ r, r < sz → w.cell? ((a.add (i * sz)).add r) = (f y)[r]? := by
      intro i hin
      obtain ⟨cs', h1, h2⟩ := hi i (by omega)
      obtain ⟨_, hlen, hat⟩ := World.cells?_some h1
      obtain ⟨y, rfl, hq⟩ := hopen _ _ _ h2 hlen
      exact ⟨y, hq, hat⟩
    rcases Nat.eq_zero_or_pos n with rfl | hn0
    · exact ⟨[], rfl, ⟨by simp, hl, hm, fun h => by omega⟩, by simp⟩
    · obtain ⟨y0, _, hy0⟩ := each 0 hn0
      haveI : Inhabited α := ⟨y0⟩
      obtain ⟨g, hg⟩ := choose_lt each
      obtain ⟨b, o, s⟩ := a
      have h00 := hy0 0 hsz
      have hsp : s = none := by
        have hv : (f y0)[0]? = some ((f y0)[0]'(by rw [hf]; omega)) := List.getElem?_eq_getElem (by rw [hf]; omega)
        rw [hv] at h00
        simpa [Addr.add] using World.cell?_spot h00
      subst hsp
      refine ⟨(List.range n).map g, by simp, ⟨by rw [flatMap_even f sz hf]; simp, hl, hm, fun _ => ⟨b, o, rfl, ?_⟩⟩, ?_⟩
      · intro j u hu
        have hj : j < n * sz := by
          have := (List.getElem?_eq_some_iff.1 hu).1
          rw [flatMap_even f sz hf] at this
          simpa using this
        have hjd : j / sz * sz + j % sz = j := by rw [Nat.mul_comm]; exact Nat.div_add_mod j sz
        have hjl : j / sz < n := by rw [Nat.div_lt_iff_lt_mul hsz]; exact hj
        have hr : j % sz < sz := Nat.mod_lt _ hsz
        rw [← hjd, flatMap_even_get f sz hf _ (j / sz) (by simpa using hjl) (j % sz) hr] at hu
        have hcell := (hg (j / sz) hjl).2 (j % sz) hr
        simp only [List.getElem_map, List.getElem_range] at hu
        rw [hu, Go.Deep.add_add, Addr.add_lit, hjd] at hcell
        exact hcell
      · intro x hx
        obtain ⟨i, hi', rfl⟩ := List.mem_map.1 hx
        exact (hg i (by simpa using hi')).1
theorem flatMap_one {α : Type} (f : α → Value) (l : List α) : l.flatMap (fun a => [f a]) = l.map f := by
  induction l with
  | nil => rfl
  | cons a l ih => simp [ih]
/-- A slice of elements of one cell each. -/
theorem rd_open1 {t e : TypeId} {α : Type} (f : α → Value) (q : α → Prop) (ht : P.underlying t = some (.slice e)) (hc : P.cellsOf e = 1)
    (hopen : ∀ n v x, DataW.trod enc P w base sp held n e [v] = some x → ∃ a, v = f a ∧ q a)
    {A : Option Addr} {n c : Nat} {d : DataW H} {p : List MemPlace} (h : DataW.Trod enc P w base sp held t (.slice A n c) d p) :
    ∃ l : List α, l.length = n ∧ Rd 1 w A n c (l.map f) ∧ ∀ a ∈ l, q a := by
  obtain ⟨l, h1, h2, h3⟩ := rd_open (fun a => [f a]) q ht hc (fun _ => rfl) (by omega) (fun n cs x hx hl => by
    match cs, hl with
    | [v], _ =>
      obtain ⟨a, rfl, ha⟩ := hopen n v x hx
      exact ⟨a, rfl, ha⟩) h
  rw [flatMap_one] at h2
  exact ⟨l, h1, h2, h3⟩
theorem rd_u64s {t e : TypeId} (ht : P.underlying t = some (.slice e)) (he : P.underlying e = some (.int .u64)) (hc : P.cellsOf e = 1)
    {A : Option Addr} {n c : Nat} {d : DataW H} {p : List MemPlace} (h : DataW.Trod enc P w base sp held t (.slice A n c) d p) :
    ∃ l : List Nat, l.length = n ∧ Rd 1 w A n c (l.map fun (x : Nat) => Value.int .u64 (x : Int)) ∧ ∀ x ∈ l, x < 18446744073709551616 :=
  rd_open1 _ _ ht hc (fun n v x hx => by
    obtain ⟨z, hz, _, hw⟩ := DataW.trod_int he hx
    simp only [List.cons.injEq, and_true] at hz
    subst hz
    have hb : 0 ≤ z ∧ z ≤ 18446744073709551615 := by simpa [Lit.wf, IntKind.min, IntKind.max, IntKind.signed, IntKind.bits] using hw
    exact ⟨z.toNat, by rw [Int.toNat_of_nonneg hb.1], by omega⟩) h
theorem rd_u16s {t e : TypeId} (ht : P.underlying t = some (.slice e)) (he : P.underlying e = some (.int .u16)) (hc : P.cellsOf e = 1)
    {A : Option Addr} {n c : Nat} {d : DataW H} {p : List MemPlace} (h : DataW.Trod enc P w base sp held t (.slice A n c) d p) :
    ∃ l : List Nat, l.length = n ∧ Rd 1 w A n c (l.map fun (x : Nat) => Value.int .u16 (x : Int)) ∧ ∀ x ∈ l, x < 65536 :=
  rd_open1 _ _ ht hc (fun n v x hx => by
    obtain ⟨z, hz, _, hw⟩ := DataW.trod_int he hx
    simp only [List.cons.injEq, and_true] at hz
    subst hz
    have hb : 0 ≤ z ∧ z ≤ 65535 := by simpa [Lit.wf, IntKind.min, IntKind.max, IntKind.signed, IntKind.bits] using hw
    exact ⟨z.toNat, by rw [Int.toNat_of_nonneg hb.1], by omega⟩) h
theorem rd_i64s {t e : TypeId} (ht : P.underlying t = some (.slice e)) (he : P.underlying e = some (.int .i64)) (hc : P.cellsOf e = 1)
    {A : Option Addr} {n c : Nat} {d : DataW H} {p : List MemPlace} (h : DataW.Trod enc P w base sp held t (.slice A n c) d p) :
    ∃ l : List Int, l.length = n ∧ Rd 1 w A n c (l.map fun (x : Int) => Value.int .i64 x) ∧ ∀ x ∈ l, -9223372036854775808 ≤ x ∧ x ≤ 9223372036854775807 :=
  rd_open1 _ _ ht hc (fun n v x hx => by
    obtain ⟨z, hz, _, hw⟩ := DataW.trod_int he hx
    simp only [List.cons.injEq, and_true] at hz
    subst hz
    have hb : -9223372036854775808 ≤ z ∧ z ≤ 9223372036854775807 := by simpa [Lit.wf, IntKind.min, IntKind.max, IntKind.signed, IntKind.bits] using hw
    exact ⟨z, rfl, hb⟩) h
theorem rd_u8s {t e : TypeId} (ht : P.underlying t = some (.slice e)) (he : P.underlying e = some (.int .u8)) (hc : P.cellsOf e = 1)
    {A : Option Addr} {n c : Nat} {d : DataW H} {p : List MemPlace} (h : DataW.Trod enc P w base sp held t (.slice A n c) d p) :
    ∃ l : List UInt8, l.length = n ∧ RdB w A n c l := by
  obtain ⟨l, h1, h2, _⟩ := rd_open1 (q := fun _ => True) bv ht hc (fun n v x hx => by
    obtain ⟨z, hz, _, hw⟩ := DataW.trod_int he hx
    simp only [List.cons.injEq, and_true] at hz
    subst hz
    have hb : 0 ≤ z ∧ z ≤ 255 := by simpa [Lit.wf, IntKind.min, IntKind.max, IntKind.signed, IntKind.bits] using hw
    obtain ⟨b, hb1, _⟩ := bv_of z hb.1 (by omega)
    exact ⟨b, hb1, trivial⟩) h
  exact ⟨l, h1, h2⟩
theorem rd_strs {t e : TypeId} (ht : P.underlying t = some (.slice e)) (he : P.underlying e = some .string) (hc : P.cellsOf e = 1)
    {A : Option Addr} {n c : Nat} {d : DataW H} {p : List MemPlace} (h : DataW.Trod enc P w base sp held t (.slice A n c) d p) :
    ∃ l : List ByteArray, l.length = n ∧ Rd 1 w A n c (l.map fun s => Value.string s) ∧ ∀ s ∈ l, s.size ≤ maxLen :=
  rd_open1 _ _ ht hc (fun n v x hx => by
    obtain ⟨s, hz, _, hw⟩ := DataW.trod_string he hx
    simp only [List.cons.injEq, and_true] at hz
    exact ⟨s, hz, hw⟩) h
theorem rd_bools {t e : TypeId} (ht : P.underlying t = some (.slice e)) (he : P.underlying e = some .bool) (hc : P.cellsOf e = 1)
    {A : Option Addr} {n c : Nat} {d : DataW H} {p : List MemPlace} (h : DataW.Trod enc P w base sp held t (.slice A n c) d p) :
    ∃ l : List Bool, l.length = n ∧ Rd 1 w A n c (l.map fun s => Value.bool s) := by
  obtain ⟨l, h1, h2, _⟩ := rd_open1 (q := fun _ => True) (fun s : Bool => Value.bool s) ht hc (fun n v x hx => by
    obtain ⟨s, hz, _⟩ := DataW.trod_bool he hx
    simp only [List.cons.injEq, and_true] at hz
    exact ⟨s, hz, trivial⟩) h
  exact ⟨l, h1, h2⟩
end

theorem bounds_i64' {n : Int} (h : (Lit.int .i64 n).wf = true) : -9223372036854775808 ≤ n ∧ n ≤ 9223372036854775807 := by
  simpa [Lit.wf, IntKind.min, IntKind.max, IntKind.signed, IntKind.bits] using h
theorem bounds_u64' {n : Int} (h : (Lit.int .u64 n).wf = true) : 0 ≤ n ∧ n ≤ 18446744073709551615 := by
  simpa [Lit.wf, IntKind.min, IntKind.max, IntKind.signed, IntKind.bits] using h
theorem bounds_u8' {n : Int} (h : (Lit.int .u8 n).wf = true) : 0 ≤ n ∧ n ≤ 255 := by
  simpa [Lit.wf, IntKind.min, IntKind.max, IntKind.signed, IntKind.bits] using h

end Go.Proofs.Ytbkncfedahifkaa
