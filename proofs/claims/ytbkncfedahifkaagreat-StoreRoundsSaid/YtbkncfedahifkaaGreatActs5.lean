/-
  An argument that is a slice of acts of layer 5, opened; light; what keeps small.
-/
import Derived.Test.YtbkncfedahifkaaGreatP5Arg
import Derived.Test.YtbkncfedahifkaaGreatStReset
set_option linter.unusedVariables false
set_option linter.unusedSimpArgs false
namespace Go.Proofs.YtbkncfedahifkaaGreat
open Go.ChangeShapes Go.WideShapes Go.Deep Go.RowKit Go.Maps

structure ActS where
  what : Int
  A : Option Addr
  n : Nat
  c : Nat
  l : List P5
def ActS.cells (a : ActS) : List Value := [.int .i64 a.what, .slice a.A a.n a.c]
def ActS.ok (w : World) (a : ActS) : Prop := Rd 3 w a.A a.n a.c (a.l.flatMap P5.cells) ∧ a.l.length = a.n ∧ ∀ x ∈ a.l, x.ok
theorem ActS.ok.nil {w w' : World} {a : ActS} (h : a.ok w) (hc : Ch [] w w') : a.ok w' := ⟨h.1.keep hc (by simp), h.2⟩

set_option maxRecDepth 100000 in
theorem rd_acts5 {H : Type} {enc : TypeId × Value → H} {w : World} {base : Nat} {sp : Nat → Bool} {held : Bool} {A : Option Addr} {n c : Nat} {d : DataW H} {p : List MemPlace}
    (h : DataW.Trod enc Tryz.prog w base sp held 50 (.slice A n c) d p) : ∃ l : List ActS, l.length = n ∧ Rd 2 w A n c (l.flatMap ActS.cells) ∧ ∀ x ∈ l, x.ok w := by
  refine rd_open ActS.cells (fun x => x.ok w) Tryz.underlying50 (by kernel_rfl) (fun _ => rfl) (by omega) (fun n cs x hx hl => ?_) h
  obtain ⟨y0, y1, k, _, _, h0, h1⟩ := trod_struct2 Tryz.underlying53 hx
  match cs, hl with
  | [v0, v1], _ =>
    have c0 : Tryz.prog.cellsOf 3 = 1 := by kernel_rfl
    have c1 : Tryz.prog.cellsOf 39 = 1 := by kernel_rfl
    simp only [c0, c1, List.drop_zero, List.drop_succ_cons, List.take_succ_cons, List.take_zero] at h0 h1
    obtain ⟨z0, e0, _, w0⟩ := DataW.trod_int Tryz.underlying3 h0
    simp only [List.cons.injEq, and_true] at e0
    subst e0
    have hs : ∃ A n c, v1 = .slice A n c := by
      rcases open_slice Tryz.underlying39 h1 with ⟨e, _⟩ | ⟨a, len, cap, _, _, _, _, e, _⟩
      · simp only [List.cons.injEq, and_true] at e; exact ⟨_, _, _, e⟩
      · simp only [List.cons.injEq, and_true] at e; exact ⟨_, _, _, e⟩
    obtain ⟨A', n', c', rfl⟩ := hs
    obtain ⟨l, hl1, hr, hq⟩ := rd_p5s (A := A') (n := n') (c := c') (d := y1.1) (p := y1.2) ⟨k, h1⟩
    exact ⟨⟨z0, A', n', c', l⟩, rfl, hr, hl1, hq⟩

theorem acts5_cells {w : World} {A : Option Addr} {n c : Nat} {l : List ActS} (h : Rd 2 w A n c (l.flatMap ActS.cells)) (k : Nat) (hk : k < l.length) (hn : l.length = n) : ∃ b o, A = some ⟨b, o, none⟩ ∧ w.cell? ⟨b, o + k * 2, none⟩ = some (.int .i64 l[k].what) ∧ w.cell? ⟨b, o + k * 2 + 1, none⟩ = some (.slice l[k].A l[k].n l[k].c) := by
  obtain ⟨b, o, e, hc⟩ := h.cells (by omega)
  refine ⟨b, o, e, hc (k * 2) _ ?_, ?_⟩
  · have := flatMap_even_get ActS.cells 2 (fun _ => rfl) l k hk 0 (by omega)
    rw [Nat.add_zero] at this
    rw [this]; rfl
  · have := flatMap_even_get ActS.cells 2 (fun _ => rfl) l k hk 1 (by omega)
    rw [Nat.add_assoc]
    exact hc (k * 2 + 1) _ (by rw [this]; rfl)

def light5L (l : List ActS) : Bool := decide (l.length ≤ 30) && l.all (fun a => decide (a.n ≤ 5))
theorem light5L_le {l : List ActS} (h : light5L l = true) : l.length ≤ 30 ∧ ∀ a ∈ l, a.n ≤ 5 := by
  unfold light5L at h
  simp only [Bool.and_eq_true, decide_eq_true_eq, List.all_eq_true] at h
  exact h
set_option maxRecDepth 100000 in
set_option maxHeartbeats 1000000 in
theorem light5_any (A : Option Addr) (n c : Nat) (l : List ActS) (w : World) (hr : Rd 2 w A n c (l.flatMap ActS.cells)) (hn : l.length = n) :
    Calls Tryz.prog 23 #[.slice A n c] w fun e w' => e = .returned (.bool (light5L l)) ∧ w = w' := by
  have hcc := hr.cap
  have hcm := hr.max
  go_enter Tryz.func23, Tryz.ntmps23
  by_cases h30 : n ≤ 30
  · go_wp2_with fail
    go_loop [3] (fun ki => ∃ k : Nat, k ≤ n ∧ ki = .int .i64 (k : Int) ∧ (l.take k).all (fun a => decide (a.n ≤ 5)) = true) (fun ki => n - (intOf ki).toNat)
    case atStart => exact ⟨0, by omega, rfl, by simp⟩
    case round =>
      obtain ⟨k, hk, rfl, hT⟩ := hrel
      by_cases hlt : k < n
      · obtain ⟨b, o, rfl, h0, h1⟩ := acts5_cells hr k (by omega) hn
        have e1 := List.take_succ_eq_append_getElem (l := l) (i := k) (by omega)
        have hmem : l[k]'(by omega) ∈ l := List.getElem_mem _
        generalize l[k]'(by omega) = x at *
        have E1 := Lib.hid e1
        have HT := Lib.hid hT
        clear e1 hT h0
        by_cases hx : x.n ≤ 5
        · go_wp2_with fail
          go_round
          case rel => exact ⟨k + 1, by omega, by go_num, by rw [E1.out, List.all_append, HT.out]; simpa using hx⟩
          case measure => simp [intOf]; omega
        · go_wp2_with fail
          go_ret
          refine ⟨?_, rfl⟩
          have : light5L l = false := by
            unfold light5L
            rw [Bool.and_eq_false_iff]
            right
            rw [List.all_eq_false]
            exact ⟨x, hmem, by simpa using hx⟩
          rw [this]; rfl
      · obtain rfl : k = n := by omega
        clear hlt hk
        go_wp2_with fail
        go_ret
        refine ⟨?_, rfl⟩
        have : light5L l = true := by
          unfold light5L
          rw [List.take_of_length_le (by omega)] at hT
          rw [hT]
          simp
          omega
        rw [this]; rfl
  · go_wp2_with fail
    go_ret
    refine ⟨?_, rfl⟩
    have : light5L l = false := by
      unfold light5L
      simp
      omega
    rw [this]; rfl

/-- Keys of at most a bytes, values of at most b. -/
def Bnd (a b : Nat) (D : Mp) : Prop := ∀ k, has D (skey k) = true → k.length ≤ a ∧ (getL D k).length ≤ b
theorem bnd_empty (a b : Nat) : Bnd a b (.map []) := fun k hk => by cases hk
theorem bnd_chg {a b : Nat} {D : Mp} (h : Bnd a b D) (hm : IsMap D) {p : PairL} (h1 : p.k.length ≤ a) (h2 : p.v.length ≤ b) : Bnd a b (chg D p) := by
  intro k hk
  unfold chg at hk ⊢
  by_cases e : k = p.k
  · subst e
    cases hg : p.gone with
    | true => rw [hg, if_pos rfl, has_del_same] at hk; cases hk
    | false => rw [if_neg (by simp), getL_put_same hm]; exact ⟨h1, h2⟩
  · cases hg : p.gone with
    | true =>
      rw [hg, if_pos rfl, has_del_other (skey_ne e)] at hk
      rw [if_pos rfl, getL_del_other e]
      exact h k hk
    | false =>
      rw [hg, if_neg (by simp), has_put_other (skey_ne e)] at hk
      rw [if_neg (by simp), getL_put_other e]
      exact h k hk
theorem bnd_chgs {a b : Nat} : ∀ {ps : List PairL} {D : Mp}, Bnd a b D → IsMap D → (∀ p ∈ ps, p.k.length ≤ a ∧ p.v.length ≤ b) → Bnd a b (chgs D ps)
  | [], D, h, hm, hp => h
  | p :: ps, D, h, hm, hp => bnd_chgs (D := chg D p) (bnd_chg h hm (hp p (by simp)).1 (hp p (by simp)).2) (isMap_chg hm p) (fun q hq => hp q (by simp [hq]))
theorem bnd_pairs {a b : Nat} {D : Mp} (h : Bnd a b D) (hs : StrMap D) (hsm : Small D) : ∀ p ∈ pairsOf D, p.ok ∧ p.k.length ≤ a ∧ p.v.length ≤ b := by
  intro p hp
  have h1 := pairsOf_ok hs hsm p hp
  obtain ⟨k, hk, rfl⟩ := List.mem_map.1 hp
  exact ⟨h1, h k ((strMap_mem hs k).1 hk)⟩
theorem pairsOf_len (D : Mp) : (pairsOf D).length = (keysL D).length := by unfold pairsOf; rw [List.length_map]
theorem StoreS.seven_len {w : World} {sb lb um b g m n sz turn a : Nat} {X : List Nat} {D : Mp} (h : StoreS w sb lb um b g m X n sz turn a D) (h7 : Seven D) : (keysL D).length ≤ 7 := by
  rw [(keysL_perm D).length_eq, ← (h.perm (here_nodup D) (here_mem h7)).length_eq]
  exact here_len D 7
theorem StrMap.isMap {D : Mp} (h : StrMap D) : IsMap D := by obtain ⟨es, rfl, _⟩ := h; exact ⟨_, rfl⟩

end Go.Proofs.YtbkncfedahifkaaGreat
