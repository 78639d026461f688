/-
  A part of a slice of records.
-/
import Derived.Test.YtbkncfedahifkaaWalResets
set_option linter.unusedVariables false
set_option linter.unusedSimpArgs false
namespace Go.Proofs.Ytbkncfedahifkaa
open Go.RowKit Go.Maps

theorem recs_cut {P : Program} (t e : TypeId) {i : TypeInfo} (ht : P.underlying t = some (.slice e)) (hi : P.info? e = some i) (hsz : i.size = 1) (A : Option Addr) (n c lo h : Nat) (h1 : lo ≤ h) (h2 : h ≤ n) (hc : n ≤ c) :
    ∃ A' : Option Addr, (∀ (kl kh : IntKind) (W : World), (Instr.slice t (.slice A n c) (some (.int kl (lo : Int))) (some (.int kh (h : Int))) none).run P W = .ok (.slice A' (h - lo) (c - lo)) W) ∧
      (∀ (w : World) (F : List Nat) (rs : List (List UInt8)), Recs w F A n c rs → Recs w F A' (h - lo) (c - lo) ((rs.drop lo).take (h - lo))) := by
  refine ⟨if c = lo then A else A.map (·.add lo), fun kl kh W => ?_, fun w F rs hr => ?_⟩
  · have hel : P.elem t = e := by simp [Program.elem, ht]
    have hu : P.underlying t = some (.slice (P.elem t)) := by rw [hel]; exact ht
    rw [run_slice_lh W t A n c hu kl kh (lo : Int) (h : Int) (Int.natCast_nonneg _) (by omega) (by omega), hel]
    simp [sizeOf, typeInfo, hi, hsz, sliced, Result.andThen]
  · obtain ⟨⟨vs, q1, q2⟩, q3, q4⟩ := hr
    have h3 := (Rd.drop (sz := 1) q1 lo (by omega)).take (h - lo) (by omega)
    rw [Nat.mul_one, Nat.mul_one] at h3
    refine ⟨⟨_, h3, fun j hj => ?_⟩, by rw [List.length_take, List.length_drop]; omega, fun a ha => ?_⟩
    · rw [List.length_take, List.length_drop] at hj
      obtain ⟨v, r1, r2⟩ := q2 (lo + j) (by omega)
      refine ⟨v, by rw [List.getElem?_take, if_pos (by omega), List.getElem?_drop]; exact r1, ?_⟩
      rw [List.getElem_take, List.getElem_drop]
      exact r2
    · split at ha
      · exact q4 a ha
      · rcases A with _ | x
        · simp at ha
        · simp only [Option.map_some, Option.some.injEq] at ha
          subst ha
          have := q4 x rfl
          unfold Addr.add
          split <;> exact this

theorem recs_sub {w : World} {F : List Nat} {A : Option Addr} {n c : Nat} {rs : List (List UInt8)} (hr : Recs w F A n c rs) (lo k : Nat) (h2 : lo + k ≤ n) (hc : lo < c) : Recs w F (Option.map (fun x => x.add lo) A) k (c - lo) ((rs.drop lo).take k) := by
  obtain ⟨⟨vs, q1, q2⟩, q3, q4⟩ := hr
  have h3 := (Rd.drop (sz := 1) q1 lo (by omega)).take k (by omega)
  rw [Nat.mul_one, Nat.mul_one, if_neg (by omega)] at h3
  refine ⟨⟨_, h3, fun j hj => ?_⟩, by rw [List.length_take, List.length_drop]; omega, fun a ha => ?_⟩
  · rw [List.length_take, List.length_drop] at hj
    obtain ⟨v, r1, r2⟩ := q2 (lo + j) (by omega)
    refine ⟨v, by rw [List.getElem?_take, if_pos (by omega), List.getElem?_drop]; exact r1, ?_⟩
    rw [List.getElem_take, List.getElem_drop]
    exact r2
  · rcases A with _ | x
    · simp at ha
    · simp only [Option.map_some, Option.some.injEq] at ha
      subst ha
      have := q4 x rfl
      unfold Addr.add
      split <;> exact this

end Go.Proofs.Ytbkncfedahifkaa
