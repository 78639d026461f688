/-
  Package store, the plain law: a map is what its own pairs, laid anew in order, come to.
-/
import Derived.Test.YtbkncfedahifkaaGreatStMore
set_option linter.unusedVariables false
set_option linter.unusedSimpArgs false
namespace Go.Proofs.YtbkncfedahifkaaGreat
open Go.RowKit Go.Maps Go.Sort Go.Shelf

/-- A map of texts to texts. -/
def StrMap (D : Mp) : Prop := ∃ es, D = .map es ∧ es.Pairwise (fun p q => p.1.before q.1 = true) ∧ Maps.Keys (KeysOf Tryz.prog 9) es ∧ ∀ p ∈ es, ∃ v, p.2 = .lit (.string v)
theorem strMap_empty : StrMap (.map []) := ⟨[], rfl, List.Pairwise.nil, by intro p hp; simp at hp, by simp⟩
theorem strMap_chg {D : Mp} (h : StrMap D) {p : PairL} (hp : p.ok) : StrMap (chg D p) := by
  obtain ⟨es, rfl, h1, h2, h3⟩ := h
  have hkd : KeysOf Tryz.prog 9 (skey p.k) := ⟨_, skey_mk p.k (by have := hp.1; omega)⟩
  unfold chg
  split
  · refine ⟨_, rfl, h1.filter _, fun q hq => h2 q (List.mem_filter.1 hq).1, fun q hq => h3 q (List.mem_filter.1 hq).1⟩
  · refine ⟨_, rfl, ?_, ?_, ?_⟩
    · refine Maps.insert_sorted skeyed.one (x := (skey p.k, .lit (.string p.v))) hkd _ (h1.filter _) (fun q hq => h2 q (List.mem_filter.1 hq).1) (fun q hq e => ?_)
      have := (List.mem_filter.1 hq).2
      rw [e] at this
      simp [skey, Lit.sameKey] at this
    · intro q hq
      rcases Go.ChangeMaps.mem_insert_iff.1 hq with rfl | hq
      · exact hkd
      · exact h2 q (List.mem_filter.1 hq).1
    · intro q hq
      rcases Go.ChangeMaps.mem_insert_iff.1 hq with rfl | hq
      · exact ⟨_, rfl⟩
      · exact h3 q (List.mem_filter.1 hq).1
theorem strMap_chgs : ∀ {ps : List PairL} {D : Mp}, StrMap D → (∀ p ∈ ps, p.ok) → StrMap (chgs D ps)
  | [], D, h, hp => h
  | p :: ps, D, h, hp => strMap_chgs (D := chg D p) (strMap_chg h (hp p (by simp))) (fun q hq => hp q (by simp [hq]))
theorem keysOf_str {l : Lit} (h : KeysOf Tryz.prog 9 l) : ∃ x, l = .string x := by
  obtain ⟨v, hv⟩ := h
  obtain ⟨x, _, hx, _⟩ := Maps.keyOf_str Tryz.underlying9 hv
  exact ⟨x, hx⟩
theorem strMap_at {D : Mp} (h : StrMap D) {y : List UInt8} (hh : has D (skey y) = true) (z : Mp) : D.atKey (skey y) z = .lit (.string (getL D y)) := by
  obtain ⟨es, rfl, h1, h2, h3⟩ := h
  rw [has_eq, List.any_eq_true] at hh
  obtain ⟨p, hp, hs⟩ := hh
  have hf : ∃ q, es.find? (fun p => p.1.sameKey (skey y)) = some q := by
    cases hq : es.find? (fun p => p.1.sameKey (skey y)) with
    | some q => exact ⟨q, rfl⟩
    | none => rw [List.find?_eq_none] at hq; exact absurd hs (hq p hp)
  obtain ⟨q, hq⟩ := hf
  obtain ⟨v, hv⟩ := h3 q (List.mem_of_find?_eq_some hq)
  have key : ∀ z : Mp, (DataW.map es).atKey (skey y) z = .lit (.string v) := fun z => by simp only [DataW.atKey, hq, hv]
  have e : getL (.map es) y = v := by unfold getL; rw [key]
  rw [key, e]
theorem strMap_mem {D : Mp} (h : StrMap D) (y : List UInt8) : y ∈ keysL D ↔ has D (skey y) = true := by
  rw [(keysL_perm D).mem_iff]
  obtain ⟨es, rfl, h1, h2, h3⟩ := h
  rw [has_eq, List.any_eq_true]
  simp only [strKeys, List.mem_map]
  constructor
  · rintro ⟨p, hp, rfl⟩
    obtain ⟨x, hx⟩ := keysOf_str (h2 p hp)
    exact ⟨p, hp, by rw [hx]; simp [strOf, skey, Lit.sameKey]⟩
  · rintro ⟨p, hp, hs⟩
    obtain ⟨x, hx⟩ := keysOf_str (h2 p hp)
    refine ⟨p, hp, ?_⟩
    rw [hx] at hs ⊢
    simpa [strOf, skey, Lit.sameKey] using hs
theorem strMap_canon {D : Mp} (h : StrMap D) : Canon D := by
  obtain ⟨es, rfl, h1, h2, h3⟩ := h
  exact ⟨es, rfl, h1, fun p hp => skeyed.one.key (h2 p hp)⟩
theorem strMap_lit {D : Mp} (h : StrMap D) {k : Lit} (hk : has D k = true) : ∃ y, k = skey y := by
  obtain ⟨es, rfl, h1, h2, h3⟩ := h
  rw [has_eq, List.any_eq_true] at hk
  obtain ⟨p, hp, hs⟩ := hk
  obtain ⟨x, hx⟩ := keysOf_str (h2 p hp)
  have := WideAt.sameKey_eq hs
  exact ⟨x, by rw [← this, hx]; rfl⟩
theorem strMap_ext {D E : Mp} (hD : StrMap D) (hE : StrMap E) (hh : ∀ y, has D (skey y) = true ↔ has E (skey y) = true) (hg : ∀ y, has D (skey y) = true → getL D y = getL E y) : D = E := by
  refine Maps.ext (strMap_canon hD) (strMap_canon hE) (fun k => ?_) (fun k z hk => ?_)
  · rw [Bool.eq_iff_iff]
    constructor
    · intro h
      obtain ⟨y, rfl⟩ := strMap_lit hD h
      exact (hh y).1 h
    · intro h
      obtain ⟨y, rfl⟩ := strMap_lit hE h
      exact (hh y).2 h
  · obtain ⟨y, rfl⟩ := strMap_lit hD hk
    rw [strMap_at hD hk, strMap_at hE ((hh y).1 hk), hg y hk]

/-- A map's pairs, in order. -/
def pairsOf (D : Mp) : List PairL := (keysL D).map (fun k => ⟨k, getL D k, false⟩)
theorem getL_puts (f : List UInt8 → List UInt8) : ∀ (ps : List PairL) (E : Mp), IsMap E → (∀ p ∈ ps, p.gone = false ∧ p.v = f p.k) → ∀ y, (∃ p ∈ ps, p.k = y) ∨ getL E y = f y → getL (chgs E ps) y = f y
  | [], E, hm, hg, y, h => by
    rcases h with ⟨p, hp, _⟩ | h
    · simp at hp
    · exact h
  | p :: ps, E, hm, hg, y, h => by
    have e : chgs E (p :: ps) = chgs (chg E p) ps := rfl
    rw [e]
    have hp := hg p (by simp)
    refine getL_puts f ps (chg E p) (isMap_chg hm p) (fun q hq => hg q (by simp [hq])) y ?_
    by_cases hy : y = p.k
    · right
      subst hy
      unfold chg
      rw [hp.1, if_neg (by simp), getL_put_same hm]
      exact hp.2
    · rcases h with ⟨q, hq, hk⟩ | h
      · rcases List.mem_cons.1 hq with rfl | hq
        · exact absurd hk.symm hy
        · exact .inl ⟨q, hq, hk⟩
      · right
        unfold chg
        rw [hp.1, if_neg (by simp), getL_put_other hy]
        exact h
theorem pairsOf_ok {D : Mp} (h : StrMap D) (hs : Small D) : ∀ p ∈ pairsOf D, p.ok := by
  intro p hp
  obtain ⟨k, hk, rfl⟩ := List.mem_map.1 hp
  exact hs k ((strMap_mem h k).1 hk)
theorem pairsOf_rep {D : Mp} (h : StrMap D) (hs : Small D) : chgs (.map []) (pairsOf D) = D := by
  have hg : ∀ p ∈ pairsOf D, p.gone = false ∧ p.v = getL D p.k := by
    intro p hp
    obtain ⟨k, hk, rfl⟩ := List.mem_map.1 hp
    exact ⟨rfl, rfl⟩
  have hmem : ∀ y, (∃ p ∈ pairsOf D, p.k = y) ↔ has D (skey y) = true := by
    intro y
    rw [← strMap_mem h y]
    constructor
    · rintro ⟨p, hp, rfl⟩
      obtain ⟨k, hk, rfl⟩ := List.mem_map.1 hp
      exact hk
    · intro hy
      exact ⟨_, List.mem_map.2 ⟨y, hy, rfl⟩, rfl⟩
  have hhas : ∀ y, has (chgs (.map []) (pairsOf D)) (skey y) = true ↔ has D (skey y) = true := by
    intro y
    rw [has_puts _ _ isMap_empty (fun p hp => (hg p hp).1), has_empty, ← hmem y]
    simp
  refine strMap_ext (strMap_chgs strMap_empty (pairsOf_ok h hs)) h hhas (fun y hy => ?_)
  exact getL_puts (getL D) _ _ isMap_empty hg y (.inl ((hmem y).2 ((hhas y).1 hy)))
theorem StoreS.strMap {w : World} {sb lb um b g m n sz turn a : Nat} {X : List Nat} {D : Mp} (h : StoreS w sb lb um b g m X n sz turn a D) : StrMap D := by
  obtain ⟨mb, ps, h⟩ := h
  have := strMap_chgs strMap_empty h.ok
  rw [h.is] at this
  exact this

end Go.Proofs.YtbkncfedahifkaaGreat
