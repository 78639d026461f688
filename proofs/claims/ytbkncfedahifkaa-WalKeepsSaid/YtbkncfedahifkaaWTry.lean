/-
  Package wal: try.
-/
import Derived.Test.YtbkncfedahifkaaWOpen
import Derived.Defers
import Derived.Recover
set_option linter.unusedVariables false
set_option linter.unusedSimpArgs false
namespace Go.Proofs.Ytbkncfedahifkaa
open Go.RowKit Go.Maps

set_option maxRecDepth 100000 in
theorem wcatch_idle (p q : Addr) (w : World) :
    CallsD Try.prog 100 #[.pointer (some p), .pointer (some q)] .returning w fun e u' w' => e = .returned (.tuple #[]) ∧ u' = .returning ∧ w' = w := by
  refine callsD_of_wpS Try.func100 rfl fun c₀ cs hu => ?_
  simp only [Try.ntmps100, List.size_toArray, List.length_cons, List.length_nil, Nat.reduceAdd, Nat.reduceSub, Array.replicate_succ, Array.replicate_zero, List.push_toArray, List.append_toArray, List.nil_append, List.cons_append]
  apply wpS_seq
  apply wpS_region
  simp [wpOpsS, go_sem, recoverD, hu, Exit.thenS]
  have hu' : c₀ = { c₀ with mode := .returning } := by cases c₀; simp_all
  refine wpS_of_wp ?_
  go_wp2
  refine ⟨rfl, .returning, by rw [← hu'], ?_⟩
  simp [results, Try.results100]

set_option maxRecDepth 100000 in
/-- The panic of must is caught: the answer is no. -/
theorem wcatch_stop (p q : Nat) (x y : Value) (older : List PanicEntry) (w : World) (hp : w.heap[p]? = some (.cells #[x] 4 (0, 0))) (hq : w.heap[q]? = some (.cells #[y] 31 (0, 0))) (hpq : p ≠ q) :
    CallsD Try.prog 100 #[.pointer (some ⟨p, 0, none⟩), .pointer (some ⟨q, 0, none⟩)] (.panicking ({ v := .iface 143 (.agg #[.int .i64 0]), recovered := false } :: older)) w fun e u' w' =>
      e = .returned (.tuple #[]) ∧ u' = .panicking ({ v := .iface 143 (.agg #[.int .i64 0]), recovered := true } :: older) ∧ Ch [p, q] w w' ∧ w'.heap[p]? = some (.cells #[.bool false] 4 (0, 0)) ∧ w'.heap[q]? = some (.cells #[.int .i64 0] 31 (0, 0)) := by
  have hpl := lt_of_at hp
  have hql := lt_of_at hq
  refine callsD_of_wpS Try.func100 rfl fun c₀ cs hu => ?_
  simp only [Try.ntmps100, List.size_toArray, List.length_cons, List.length_nil, Nat.reduceAdd, Nat.reduceSub, Array.replicate_succ, Array.replicate_zero, List.push_toArray, List.append_toArray, List.nil_append, List.cons_append]
  apply wpS_seq
  apply wpS_region
  simp [wpOpsS, go_sem, recoverD, hu, Exit.thenS]
  refine wpS_of_wp ?_
  have hta : ∀ W : World, (Instr.typeAssert (.iface 143 (.agg #[.int .i64 0])) 20 143 true).run Try.prog W = .ok (.tuple #[.agg #[.int .i64 0], .bool true]) W := fun _ => by kernel_rfl
  have hpc := cell_at hp 0 rfl
  have hpf := free_at hp 0
  have hqc := cell_at hq 0 rfl
  have hqf := free_at hq 0
  have hA := (Ch.refl [] w).alloc (.cells #[.int .i64 0] 143)
  have hAd := hA
  have hp1 := hAd.at_ hp (by simp)
  have hq1 := hAd.at_ hq (by simp)
  have hp1c := cell_at hp1 0 rfl
  have hp1f := free_at hp1 0
  have hs2 : Ch [p] (w.alloc (.cells #[.int .i64 0] 143)) ((w.alloc (.cells #[.int .i64 0] 143)).setCell ⟨p, 0, none⟩ (.bool false)) := (Ch.refl _ _).setCell _ _ (by simp)
  have hq2 := hs2.at_ hq1 (by simp; omega)
  have hq2c := cell_at hq2 0 rfl
  have hq2f := free_at hq2 0
  have hp2 : ((w.alloc (.cells #[.int .i64 0] 143)).setCell ⟨p, 0, none⟩ (.bool false)).heap[p]? = some (.cells #[.bool false] 4 (0, 0)) := by
    have := heap_setCell_same _ p 0 _ 4 (.bool false) hp1
    simpa using this
  have hs3 : Ch [q] ((w.alloc (.cells #[.int .i64 0] 143)).setCell ⟨p, 0, none⟩ (.bool false)) (((w.alloc (.cells #[.int .i64 0] 143)).setCell ⟨p, 0, none⟩ (.bool false)).setCell ⟨q, 0, none⟩ (.int .i64 0)) := (Ch.refl _ _).setCell _ _ (by simp)
  have hp3 := hs3.at_ hp2 (by simp; omega)
  have hq3 : (((w.alloc (.cells #[.int .i64 0] 143)).setCell ⟨p, 0, none⟩ (.bool false)).setCell ⟨q, 0, none⟩ (.int .i64 0)).heap[q]? = some (.cells #[.int .i64 0] 31 (0, 0)) := by
    have := heap_setCell_same _ q 0 _ 31 (.int .i64 0) hq2
    simpa using this
  have hfin : Ch [p, q] w (((w.alloc (.cells #[.int .i64 0] 143)).setCell ⟨p, 0, none⟩ (.bool false)).setCell ⟨q, 0, none⟩ (.int .i64 0)).drew := (((hAd.mono (G := [p, q]) (by simp)).trans hs2 (by simp)).trans hs3 (by simp)).drew
  have hp4 : (((w.alloc (.cells #[.int .i64 0] 143)).setCell ⟨p, 0, none⟩ (.bool false)).setCell ⟨q, 0, none⟩ (.int .i64 0)).drew.heap[p]? = some (.cells #[.bool false] 4 (0, 0)) := hp3
  have hq4 : (((w.alloc (.cells #[.int .i64 0] 143)).setCell ⟨p, 0, none⟩ (.bool false)).setCell ⟨q, 0, none⟩ (.int .i64 0)).drew.heap[q]? = some (.cells #[.int .i64 0] 31 (0, 0)) := hq3
  have HF := Lib.hid (show _ ∧ _ ∧ _ from ⟨hfin, hp4, hq4⟩)
  clear hfin hp3 hq3 hp4 hq4
  have hT0 : (w.alloc (.cells #[.int .i64 0] 143)).cell? ⟨w.heap.size, 0, none⟩ = some (.int .i64 0) := cell_at (heap_alloc_new w _) 0 rfl
  go_wp2_with fail
  generalize hwB : w.alloc (.cells #[.int .i64 0] 143) = wB at *
  clear hwB
  refine dr_begin (by kernel_rfl) ?_
  refine dr_more (fun W => W.cell? ⟨w.heap.size, 0, none⟩ = some (.int .i64 0)) ?_
  have hT : True ∧ wB.drew.cell? ⟨w.heap.size, 0, none⟩ = some (.int .i64 0) := ⟨trivial, hT0⟩
  refine dr_take 0 (some 16) (v := ?_) rfl rfl (by kernel_rfl) (by kernel_rfl) (by kernel_rfl) (fun _ _ _ h => h) rfl hT (fun W _ => ?_) ?_
  rotate_left
  · (go_simp; try with_reducible rfl)
  try simp only [Act.put, List.setIfInBounds_toArray, List.set_cons_zero, List.set_cons_succ]
  refine dr_take 1 (some 17) (v := ?_) rfl rfl (by kernel_rfl) (by kernel_rfl) (by kernel_rfl) (fun _ _ _ h => h) rfl hT (fun W hW => ?_) ?_
  rotate_left
  · (have h1 := hW.2; go_simp; try with_reducible rfl)
  try simp only [Act.put, List.setIfInBounds_toArray, List.set_cons_zero, List.set_cons_succ]
  refine dr_step 2 rfl (by kernel_rfl) rfl (fun K hK => ?_)
  go_simp
  have hT : True ∧ (wB.setCell ⟨p, 0, none⟩ (.bool false)).drew.cell? ⟨w.heap.size, 0, none⟩ = some (.int .i64 0) := ⟨trivial, hs2.cell hT.2 (by simp; omega)⟩
  refine hK.out _ _ hT ?_
  clear hK K
  try simp only [Act.put, List.setIfInBounds_toArray, List.set_cons_zero, List.set_cons_succ]
  refine dr_step 3 rfl (by kernel_rfl) rfl (fun K hK => ?_)
  go_simp
  have hT : True ∧ ((wB.setCell ⟨p, 0, none⟩ (.bool false)).setCell ⟨q, 0, none⟩ (.int .i64 0)).drew.cell? ⟨w.heap.size, 0, none⟩ = some (.int .i64 0) := ⟨trivial, hs3.cell hT.2 (by simp; omega)⟩
  refine hK.out _ _ hT ?_
  clear hK K
  try simp only [Act.put, List.setIfInBounds_toArray, List.set_cons_zero, List.set_cons_succ]
  refine dr_done (by kernel_rfl) ?_
  refine ⟨rfl, _, rfl, ?_⟩
  refine ⟨.tuple #[], by simp [results, Try.results100], rfl, rfl, HF.out⟩

/-- What try comes to. -/
theorem wtry_any (k : Nat) (cap : Array Value) (G : List Nat) (A B : World → Prop) (w : World) (hcf : ∀ W, (callFunc k cap).run Try.prog W = .ok (.enter k cap) W) (hG : ∀ x ∈ G, x < w.heap.size)
    (hA : ∀ w1 w2, A w1 → Ch [w.heap.size, w.heap.size + 1] w1 w2 → A w2) (hB : ∀ w1 w2, B w1 → Ch [w.heap.size, w.heap.size + 1] w1 w2 → B w2)
    (hC : ∀ W, Ch [] w W → w.heap.size + 2 ≤ W.heap.size → Calls Try.prog k cap W fun e w' => Ch G W w' ∧ ((e = .returned (.tuple #[]) ∧ A w') ∨ (e = .panicked stopW ∧ B w'))) :
    Calls Try.prog 88 #[.func (.func k) #[] cap] w fun e w' => Ch G w w' ∧ ((e = .returned (.tuple #[.bool true, .int .i64 0]) ∧ A w') ∨ (e = .returned (.tuple #[.bool false, .int .i64 0]) ∧ B w')) := by
  have hmf : ∀ (fn : Fn) (first cap : Array Value) (w : World), (Instr.makeFunc fn first cap).run Try.prog w = .ok (.func fn first cap) w := fun _ _ _ _ => rfl
  go_enter_defers Try.func88, Try.ntmps88
  go_wp2_with fail
  generalize hW : (w.alloc (.cells #[.bool false] 4)).alloc (.cells #[.int .i64 0] 31) = W
  have hch : Ch [] w W := by rw [← hW]; exact ((Ch.refl _ _).alloc _).alloc _
  have hp : W.heap[w.heap.size]? = some (.cells #[.bool false] 4 (0, 0)) := by rw [← hW]; exact heap_alloc2_old w _ _
  have hq : W.heap[w.heap.size + 1]? = some (.cells #[.int .i64 0] 31 (0, 0)) := by rw [← hW]; exact heap_alloc2_new w _ _
  clear hW
  refine (hC W hch (lt_of_at hq)).mono ?_
  rintro e w1 ⟨hc1, he⟩
  have hp1 := hc1.at_ hp (by intro hx; have := hG _ hx; omega)
  have hq1 := hc1.at_ hq (by intro hx; have := hG _ hx; omega)
  have hs1 := hc1.size
  have hsW := lt_of_at hq
  rcases he with ⟨rfl, hAw⟩ | ⟨rfl, hBw⟩
  · have hpc := cell_at hp1 0 rfl
    have hpf := free_at hp1 0
    have hset : Ch [w.heap.size] w1 (w1.setCell ⟨w.heap.size, 0, none⟩ (.bool true)) := (Ch.refl _ _).setCell _ _ (by simp)
    have hp2 : (w1.setCell ⟨w.heap.size, 0, none⟩ (.bool true)).heap[w.heap.size]? = some (.cells #[.bool true] 4 (0, 0)) := by
      have := heap_setCell_same w1 w.heap.size 0 _ 4 (.bool true) hp1
      simpa using this
    have hq2 := hset.at_ hq1 (by simp)
    have hqc := cell_at hq2 0 rfl
    have hqf := free_at hq2 0
    have hset2 : Ch [w.heap.size + 1] (w1.setCell ⟨w.heap.size, 0, none⟩ (.bool true)) ((w1.setCell ⟨w.heap.size, 0, none⟩ (.bool true)).setCell ⟨w.heap.size + 1, 0, none⟩ (.int .i64 0)) := (Ch.refl _ _).setCell _ _ (by simp)
    have hp3 := hset2.at_ hp2 (by simp)
    have hq3 : ((w1.setCell ⟨w.heap.size, 0, none⟩ (.bool true)).setCell ⟨w.heap.size + 1, 0, none⟩ (.int .i64 0)).heap[w.heap.size + 1]? = some (.cells #[.int .i64 0] 31 (0, 0)) := by
      have := heap_setCell_same _ (w.heap.size + 1) 0 _ 31 (.int .i64 0) hq2
      simpa using this
    have c3 := cell_at hp3 0 rfl
    have c4 := cell_at hq3 0 rfl
    have hAA := hA _ _ hAw (((hset.mono (G := [w.heap.size, w.heap.size + 1]) (by simp)).trans hset2 (by simp)))
    have hcc : Ch G w ((w1.setCell ⟨w.heap.size, 0, none⟩ (.bool true)).setCell ⟨w.heap.size + 1, 0, none⟩ (.int .i64 0)) := (((hch.mono (G := G) (by simp)).trans hc1 (fun x hx => .inl hx)).setCell _ _ (by simp)).setCell _ _ (by simp)
    have HH := Lib.hid (show _ ∧ _ from ⟨hcc, hAA⟩)
    clear hcc hAA
    go_wp2_with fail
    refine leaves_cons (f := 100) (args := #[.pointer (some ⟨w.heap.size, 0, none⟩), .pointer (some ⟨w.heap.size + 1, 0, none⟩)]) (by simp) (by simp [go_sem]) ?_
    refine (wcatch_idle _ _ _).mono ?_
    rintro e u w2 ⟨rfl, rfl, rfl⟩
    simp only [Leaves, settle]
    exact ⟨.tuple #[.bool true, .int .i64 0], by simp [results, Try.results88, go_sem, c3, c4], HH.out.1, .inl ⟨rfl, HH.out.2⟩⟩
  · refine leaves_cons (f := 100) (args := #[.pointer (some ⟨w.heap.size, 0, none⟩), .pointer (some ⟨w.heap.size + 1, 0, none⟩)]) (by simp) (by simp [go_sem]) ?_
    refine (wcatch_stop _ _ _ _ [] w1 hp1 hq1 (by omega)).mono ?_
    rintro e u w2 ⟨rfl, rfl, hc2, hp2, hq2⟩
    have c3 := cell_at hp2 0 rfl
    have c4 := cell_at hq2 0 rfl
    simp only [Leaves, settle, List.dropWhile_nil]
    refine ⟨.tuple #[.bool false, .int .i64 0], by simp [results, Try.results88, go_sem, c3, c4], ?_, .inr ⟨rfl, hB _ _ hBw hc2⟩⟩
    exact ((hch.mono (G := G) (by simp)).trans hc1 (fun x hx => .inl hx)).trans hc2 (by simp)

end Go.Proofs.Ytbkncfedahifkaa
