/-
  Package code, the reader: the deferred closure of try.
-/
import Derived.Test.YtbkncfedahifkaaRInt
import Derived.Defers
import Derived.Recover
set_option linter.unusedVariables false
set_option linter.unusedSimpArgs false
namespace Go.Proofs.Ytbkncfedahifkaa
open Go.RowKit

set_option maxRecDepth 100000 in
theorem catch_idle (p q : Addr) (w : World) :
    CallsD Try.prog 94 #[.pointer (some p), .pointer (some q)] .returning w fun e u' w' => e = .returned (.tuple #[]) ∧ u' = .returning ∧ w' = w := by
  refine callsD_of_wpS Try.func94 rfl fun c₀ cs hu => ?_
  simp only [Try.ntmps94, List.size_toArray, List.length_cons, List.length_nil, Nat.reduceAdd, Nat.reduceSub, Array.replicate_succ, Array.replicate_zero, List.push_toArray, List.append_toArray, List.nil_append, List.cons_append]
  apply wpS_seq
  apply wpS_region
  simp [wpOpsS, go_sem, recoverD, hu, Exit.thenS]
  have hu' : c₀ = { c₀ with mode := .returning } := by cases c₀; simp_all
  refine wpS_of_wp ?_
  go_wp2
  refine ⟨rfl, .returning, by rw [← hu'], ?_⟩
  simp [results, Try.results94]

set_option maxRecDepth 100000 in
/-- The panic of must is caught: the reader failed; the answer is no. -/
theorem catch_stop (p q b : Nat) (r : Value) (older : List PanicEntry) (w : World) (hp : w.heap[p]? = some (.cells #[.pointer (some ⟨b, 0, none⟩)] 26 (0, 0)))
    (hb : w.heap[b]? = some (.cells #[r, .bool false] 109 (0, 0))) (hq : w.heap[q]? = some (.cells #[.bool false] 4 (0, 0))) (hqb : q ≠ b) :
    CallsD Try.prog 94 #[.pointer (some ⟨p, 0, none⟩), .pointer (some ⟨q, 0, none⟩)] (.panicking ({ v := .iface 134 (.agg #[]), recovered := false } :: older)) w fun e u' w' =>
      e = .returned (.tuple #[]) ∧ u' = .panicking ({ v := .iface 134 (.agg #[]), recovered := true } :: older) ∧ w' = ((w.setCell ⟨b, 1, none⟩ (.bool true)).setCell ⟨q, 0, none⟩ (.bool false)).alloc (.cells #[] 134) := by
  have hpl := lt_of_at hp
  have hbl := lt_of_at hb
  have hql := lt_of_at hq
  refine callsD_of_wpS Try.func94 rfl fun c₀ cs hu => ?_
  simp only [Try.ntmps94, List.size_toArray, List.length_cons, List.length_nil, Nat.reduceAdd, Nat.reduceSub, Array.replicate_succ, Array.replicate_zero, List.push_toArray, List.append_toArray, List.nil_append, List.cons_append]
  apply wpS_seq
  apply wpS_region
  simp [wpOpsS, go_sem, recoverD, hu, Exit.thenS]
  refine wpS_of_wp ?_
  have hta : ∀ W : World, (Instr.typeAssert (.iface 134 (.agg #[])) 20 134 true).run Try.prog W = .ok (.tuple #[.agg #[], .bool true]) W := fun _ => by kernel_rfl
  have hpc := cell_at hp 0 rfl
  have hbc := cell_at hb 1 rfl
  have hbf := free_at hb 1
  have hqc := cell_at hq 0 rfl
  have hqf := free_at hq 0
  go_wp2
  refine ⟨rfl, _, rfl, ?_⟩
  simp [results, Try.results94]


/-- What a closure of the reader's comes to: it read, and laid what it read in X; or it panicked. -/
def CPost (w : World) (b g X : Nat) (T : TypeId) (r : Option (Value × List UInt8)) (e : Ending) (w' : World) : Prop :=
  Ch [b, X] w w' ∧ match r with
    | some (v, l) => e = .returned (.tuple #[]) ∧ IsRd w' b g (some l) ∧ w'.heap[X]? = some (.cells #[v] T (0, 0))
    | none => e = .panicked stop ∧ ∃ l, IsRd w' b g (some l)
/-- What try comes to. -/
def TPost (w : World) (b g X : Nat) (T : TypeId) (r : Option (Value × List UInt8)) (e : Ending) (w' : World) : Prop :=
  e = .returned (.bool r.isSome) ∧ Ch [b, X] w w' ∧ match r with
    | some (v, l) => IsRd w' b g (some l) ∧ w'.heap[X]? = some (.cells #[v] T (0, 0))
    | none => IsRd w' b g none

set_option maxRecDepth 100000 in
theorem try_failed (f : Value) (b g : Nat) (w : World) (h : IsRd w b g none) :
    Calls Try.prog 66 #[.pointer (some ⟨b, 0, none⟩), f] w fun e w' => e = .returned (.bool false) ∧ Ch [] w w' := by
  obtain ⟨hgl, A, n, c, f, hb, hA, rfl⟩ := h
  have hlt := lt_of_at hb
  have hbc0 := cell_at hb 0 rfl
  have hbc1 := cell_at hb 1 rfl
  have hbf := free_at hb 1
  go_enter_defers Try.func66, Try.ntmps66
  go_wp2
  simp [bodyPostD, Leaves, settle, results, Try.results66, go_sem]
  exact ((Ch.refl _ _).alloc _).alloc _

set_option maxRecDepth 100000 in
set_option maxHeartbeats 1600000 in
theorem try_any (k : Nat) (cap : Array Value) (b g X : Nat) (T : TypeId) (r : Option (Value × List UInt8)) (l : List UInt8) (w : World) (hcf : ∀ W, (callFunc k cap).run Try.prog W = .ok (.enter k cap) W)
    (hX : X < w.heap.size) (h : IsRd w b g (some l)) (hC : ∀ W, Ch [] w W → Calls Try.prog k cap W (CPost W b g X T r)) :
    Calls Try.prog 66 #[.pointer (some ⟨b, 0, none⟩), .func (.func k) #[] cap] w (TPost w b g X T r) := by
  have h' := h
  obtain ⟨hgl, A, n, c, f, hb, hA, rfl, hrd, hn⟩ := h
  have hlt := lt_of_at hb
  have hbc0 := cell_at hb 0 rfl
  have hbc1 := cell_at hb 1 rfl
  have hbf := free_at hb 1
  have hmf : ∀ (fn : Fn) (first cap : Array Value) (w : World), (Instr.makeFunc fn first cap).run Try.prog w = .ok (.func fn first cap) w := fun _ _ _ _ => rfl
  go_enter_defers Try.func66, Try.ntmps66
  go_wp2_with fail
  generalize hW : (w.alloc (.cells #[.pointer (some ⟨b, 0, none⟩)] 26)).alloc (.cells #[.bool false] 4) = W
  have hch : Ch [] w W := by rw [← hW]; exact ((Ch.refl _ _).alloc _).alloc _
  have hp : W.heap[w.heap.size]? = some (.cells #[.pointer (some ⟨b, 0, none⟩)] 26 (0, 0)) := by rw [← hW]; exact heap_alloc2_old w _ _
  have hq : W.heap[w.heap.size + 1]? = some (.cells #[.bool false] 4 (0, 0)) := by rw [← hW]; exact heap_alloc2_new w _ _
  clear hW
  refine (hC W hch).mono ?_
  rintro e w1 ⟨hc1, he⟩
  cases r with
  | none =>
    obtain ⟨rfl, l', hgl', A1, n1, c1, f1, hb1, hA1, rfl, hrd1, hn1⟩ := he
    have hp1 := hc1.at_ hp (by simp; omega)
    have hq1 := hc1.at_ hq (by simp; omega)
    refine leaves_cons (f := 94) (args := #[.pointer (some ⟨w.heap.size, 0, none⟩), .pointer (some ⟨w.heap.size + 1, 0, none⟩)]) (by simp) (by simp [go_sem]) ?_
    refine (catch_stop _ _ b _ [] w1 hp1 hb1 hq1 (by omega)).mono ?_
    rintro e u w2 ⟨rfl, rfl, rfl⟩
    have hb2 : (w1.setCell ⟨b, 1, none⟩ (.bool true)).heap[b]? = some (.cells #[.slice A1 n1 c1, .bool true] 109 (0, 0)) := by
      have := heap_setCell_same w1 b 1 _ 109 (.bool true) hb1
      simpa using this
    have hq2 : (w1.setCell ⟨b, 1, none⟩ (.bool true)).heap[w.heap.size + 1]? = some (.cells #[.bool false] 4 (0, 0)) := ((Ch.refl [b] w1).setCell _ _ (by simp)).at_ hq1 (by simp; omega)
    have hq3 : ((w1.setCell ⟨b, 1, none⟩ (.bool true)).setCell ⟨w.heap.size + 1, 0, none⟩ (.bool false)).heap[w.heap.size + 1]? = some (.cells #[.bool false] 4 (0, 0)) := by
      have := heap_setCell_same _ (w.heap.size + 1) 0 _ 4 (.bool false) hq2
      simpa using this
    have hb3 : ((w1.setCell ⟨b, 1, none⟩ (.bool true)).setCell ⟨w.heap.size + 1, 0, none⟩ (.bool false)).heap[b]? = some (.cells #[.slice A1 n1 c1, .bool true] 109 (0, 0)) :=
      ((Ch.refl [w.heap.size + 1] _).setCell _ _ (by simp)).at_ hb2 (by simp; omega)
    have hq4 := ((Ch.refl [] _).alloc (.cells #[] 134)).at_ hq3 (by simp)
    have hb4 := ((Ch.refl [] _).alloc (.cells #[] 134)).at_ hb3 (by simp)
    have hq4c := cell_at hq4 0 rfl
    have hs1 := hc1.size
    have hs := hch.size
    simp only [Leaves, settle, List.dropWhile_nil]
    refine ⟨.bool false, by simp [results, Try.results66, go_sem, hq4c], rfl, ?_, ?_⟩
    · refine (((((hch.mono (G := [b, X]) (by simp)).trans hc1 (by simp)).setCell _ _ (by simp)).setCell _ _ (by simp)).alloc _)
    · exact ⟨by simp; omega, A1, n1, c1, true, hb4, hA1, rfl⟩
  | some q =>
    obtain ⟨v, l'⟩ := q
    obtain ⟨rfl, hl', hX'⟩ := he
    have hq1 := hc1.at_ hq (by simp; omega)
    have hqc := cell_at hq1 0 rfl
    have hqf := free_at hq1 0
    go_wp2_with fail
    refine leaves_cons (f := 94) (args := #[.pointer (some ⟨w.heap.size, 0, none⟩), .pointer (some ⟨w.heap.size + 1, 0, none⟩)]) (by simp) (by simp [go_sem]) ?_
    refine (catch_idle _ _ _).mono ?_
    rintro e u w2 ⟨rfl, rfl, rfl⟩
    have hq2 := World.cell?_setCell_same (v := .bool true) (h := hqc)
    have hset : Ch [w.heap.size + 1] w1 (w1.setCell ⟨w.heap.size + 1, 0, none⟩ (.bool true)) := (Ch.refl _ _).setCell _ _ (by simp)
    simp only [Leaves, settle]
    refine ⟨.bool true, by simp [results, Try.results66, go_sem, hq2], rfl, ?_, ?_, ?_⟩
    · exact (((hch.mono (G := [b, X]) (by simp)).trans hc1 (by simp)).setCell _ _ (by simp))
    · exact hl'.keep hset (by simp; omega) (by simp; omega)
    · exact hset.at_ hX' (by simp; omega)

end Go.Proofs.Ytbkncfedahifkaa
