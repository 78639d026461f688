/-
  Package code, the reader: the contracts of Num, Int, Text, Bool, and of their closures. (Written by wip/tools/gen_router.py.)
-/
import Derived.Test.YtbkncfedahifkaaRTry
set_option linter.unusedVariables false
namespace Go.Proofs.Ytbkncfedahifkaa
open Go.RowKit

/-- What a call answers: what was read, or nothing. -/
def ans (zero : Value) (r : Option (Value × List UInt8)) : Value := match r with | some (v, _) => v | none => zero

theorem IsRd.alloc {w : World} {b g : Nat} {st : Option (List UInt8)} (h : IsRd w b g st) (o : Obj) : IsRd (w.alloc o) b g st := h.nil ((Ch.refl _ _).alloc o)

theorem rNum_shape {l l' : List UInt8} {v : Value} (h : rNum l = some (v, l')) : ∃ x : Nat, v = .int .u64 (x : Int) := by
  unfold rNum at h
  cases hd : decN l with
  | none => rw [hd] at h; cases h
  | some p => rw [hd] at h; injection h with h; injection h with h1 h2; exact ⟨p.1, h1.symm⟩
theorem rInt_shape {l l' : List UInt8} {v : Value} (h : rInt l = some (v, l')) : ∃ x : Int, v = .int .i64 x := by
  unfold rInt at h
  cases hd : decN l with
  | none => rw [hd] at h; cases h
  | some p => rw [hd] at h; injection h with h; injection h with h1 h2; exact ⟨unzz p.1, h1.symm⟩
theorem rText_shape {l l' : List UInt8} {v : Value} (h : rText l = some (v, l')) : ∃ x : ByteArray, v = .string x := by
  unfold rText at h
  cases hd : decT l with
  | none => rw [hd] at h; cases h
  | some p => rw [hd] at h; injection h with h; injection h with h1 h2; exact ⟨str p.1, h1.symm⟩
theorem rBool_shape {l l' : List UInt8} {v : Value} (h : rBool l = some (v, l')) : ∃ x : Bool, v = .bool x := by
  unfold rBool at h
  cases hd : decB l with
  | none => rw [hd] at h; cases h
  | some p => rw [hd] at h; injection h with h; injection h with h1 h2; exact ⟨p.1, h1.symm⟩

set_option maxRecDepth 100000 in
theorem cnum (p X b g : Nat) (l : List UInt8) (v0 : Value) (w : World) (hp : w.heap[p]? = some (.cells #[.pointer (some ⟨b, 0, none⟩)] 26 (0, 0))) (hX : w.heap[X]? = some (.cells #[v0] 33 (0, 0))) (hXb : X ≠ b) (hXg : X ≠ g) (h : IsRd w b g (some l)) :
    Calls Try.prog 72 #[.pointer (some ⟨p, 0, none⟩), .pointer (some ⟨X, 0, none⟩)] w (CPost w b g X 33 (rNum l)) := by
  have hpc := cell_at hp 0 rfl
  go_enter Try.func72, Try.ntmps72
  go_wp2_with fail
  refine (num_any b g l _ h).mono ?_
  rintro e w1 hh; obtain ⟨hc, he⟩ := num_r hh
  cases hd : rNum l with
  | none =>
    rw [hd] at he
    obtain ⟨rfl, l', hl'⟩ := he
    exact ⟨rfl, hc.mono (by simp), rfl, l', hl'⟩
  | some q =>
    obtain ⟨v, l'⟩ := q
    rw [hd] at he
    obtain ⟨rfl, hl'⟩ := he
    have hX1 := hc.at_ hX (by simpa using hXb)
    have hXc := cell_at hX1 0 rfl
    have hXf := free_at hX1 0
    obtain ⟨x, rfl⟩ := rNum_shape hd
    have Hd := Lib.hid hd
    clear hd
    go_wp2_with fail
    go_end0
    have hset : Ch [X] w1 (w1.setCell ⟨X, 0, none⟩ (.int .u64 (x : Int))) := (Ch.refl _ _).setCell _ _ (by simp)
    refine ⟨(hc.mono (G := [b, X]) (by simp)).setCell _ _ (by simp), ?_⟩
    rw [Hd.out]
    refine ⟨rfl, hl'.keep hset (by simpa using fun e => hXb e.symm) (by simpa using fun e => hXg e.symm), ?_⟩
    have := heap_setCell_same w1 X 0 _ 33 (.int .u64 (x : Int)) hX1
    simpa using this

set_option maxRecDepth 100000 in
theorem rnum (b g : Nat) (st : Option (List UInt8)) (w : World) (h : IsRd w b g st) :
    Calls Try.prog 33 #[.pointer (some ⟨b, 0, none⟩)] w fun e w' => e = .returned (ans (.int .u64 0) (st.bind rNum)) ∧ IsRd w' b g ((st.bind rNum).map (·.2)) ∧ Ch [b] w w' := by
  have hlt := h.lt
  have hgl := h.1
  have hmf : ∀ (fn : Fn) (first cap : Array Value) (w : World), (Instr.makeFunc fn first cap).run Try.prog w = .ok (.func fn first cap) w := fun _ _ _ _ => rfl
  have hW : ∀ W, W = (w.alloc (.cells #[.pointer (some ⟨b, 0, none⟩)] 26)).alloc (.cells #[(.int .u64 0)] 33) → Ch [] w W ∧ W.heap[w.heap.size]? = some (.cells #[.pointer (some ⟨b, 0, none⟩)] 26 (0, 0)) ∧ W.heap[w.heap.size + 1]? = some (.cells #[(.int .u64 0)] 33 (0, 0)) ∧ W.heap.size = w.heap.size + 2 := by
    rintro W rfl
    exact ⟨((Ch.refl _ _).alloc _).alloc _, heap_alloc2_old w _ _, heap_alloc2_new w _ _, by simp⟩
  cases st with
  | none =>
    have hf := fun f => try_failed f b g ((w.alloc (.cells #[.pointer (some ⟨b, 0, none⟩)] 26)).alloc (.cells #[(.int .u64 0)] 33)) (h.nil (hW _ rfl).1)
    have hch := (hW _ rfl).1
    clear hW
    go_enter Try.func33, Try.ntmps33
    go_wp2_with fail
    refine (hf _).mono ?_
    rintro e w1 ⟨rfl, h2⟩
    clear hf
    go_wp2_with fail
    go_ret
    exact ⟨rfl, (h.nil hch).nil h2, (hch.trans' h2).mono (by simp)⟩
  | some l =>
    obtain ⟨hch, hp, hX, hsz⟩ := hW _ rfl
    clear hW
    have hT := try_any 72 #[.pointer (some ⟨w.heap.size, 0, none⟩), .pointer (some ⟨w.heap.size + 1, 0, none⟩)] b g (w.heap.size + 1) 33 (rNum l) l _ (by intro W; kernel_rfl) (by omega) (h.nil hch)
      (fun W hc => cnum _ _ b g l _ W (hc.at_ hp (by simp)) (hc.at_ hX (by simp)) (by omega) (by omega) ((h.nil hch).nil hc))
    clear hp hX hsz
    go_enter Try.func33, Try.ntmps33
    go_wp2_with fail
    refine hT.mono ?_
    rintro e w1 ⟨rfl, hc1, he⟩
    clear hT
    have hcw : Ch [b] w w1 := (hch.mono (G := [b]) (by simp)).trans hc1 (by simp)
    cases hd : rNum l with
    | none =>
      rw [hd] at he
      go_wp2_with fail
      go_ret
      exact ⟨by simp [hd, ans], by simpa [hd] using he, hcw⟩
    | some q =>
      obtain ⟨v, l'⟩ := q
      rw [hd] at he
      obtain ⟨hl', hX'⟩ := he
      have hXc := cell_at hX' 0 rfl
      obtain ⟨x, rfl⟩ := rNum_shape hd
      have Hd := Lib.hid hd
      clear hd
      go_wp2_with fail
      go_ret
      exact ⟨by simp [Hd.out, ans], by simpa [Hd.out] using hl', hcw⟩

set_option maxRecDepth 100000 in
theorem cint (p X b g : Nat) (l : List UInt8) (v0 : Value) (w : World) (hp : w.heap[p]? = some (.cells #[.pointer (some ⟨b, 0, none⟩)] 26 (0, 0))) (hX : w.heap[X]? = some (.cells #[v0] 2 (0, 0))) (hXb : X ≠ b) (hXg : X ≠ g) (h : IsRd w b g (some l)) :
    Calls Try.prog 67 #[.pointer (some ⟨p, 0, none⟩), .pointer (some ⟨X, 0, none⟩)] w (CPost w b g X 2 (rInt l)) := by
  have hpc := cell_at hp 0 rfl
  go_enter Try.func67, Try.ntmps67
  go_wp2_with fail
  refine (int_any b g l _ h).mono ?_
  rintro e w1 ⟨hc, he⟩
  cases hd : rInt l with
  | none =>
    rw [hd] at he
    obtain ⟨rfl, l', hl'⟩ := he
    exact ⟨rfl, hc.mono (by simp), rfl, l', hl'⟩
  | some q =>
    obtain ⟨v, l'⟩ := q
    rw [hd] at he
    obtain ⟨rfl, hl'⟩ := he
    have hX1 := hc.at_ hX (by simpa using hXb)
    have hXc := cell_at hX1 0 rfl
    have hXf := free_at hX1 0
    obtain ⟨x, rfl⟩ := rInt_shape hd
    have Hd := Lib.hid hd
    clear hd
    go_wp2_with fail
    go_end0
    have hset : Ch [X] w1 (w1.setCell ⟨X, 0, none⟩ (.int .i64 x)) := (Ch.refl _ _).setCell _ _ (by simp)
    refine ⟨(hc.mono (G := [b, X]) (by simp)).setCell _ _ (by simp), ?_⟩
    rw [Hd.out]
    refine ⟨rfl, hl'.keep hset (by simpa using fun e => hXb e.symm) (by simpa using fun e => hXg e.symm), ?_⟩
    have := heap_setCell_same w1 X 0 _ 2 (.int .i64 x) hX1
    simpa using this

set_option maxRecDepth 100000 in
theorem rint (b g : Nat) (st : Option (List UInt8)) (w : World) (h : IsRd w b g st) :
    Calls Try.prog 23 #[.pointer (some ⟨b, 0, none⟩)] w fun e w' => e = .returned (ans (.int .i64 0) (st.bind rInt)) ∧ IsRd w' b g ((st.bind rInt).map (·.2)) ∧ Ch [b] w w' := by
  have hlt := h.lt
  have hgl := h.1
  have hmf : ∀ (fn : Fn) (first cap : Array Value) (w : World), (Instr.makeFunc fn first cap).run Try.prog w = .ok (.func fn first cap) w := fun _ _ _ _ => rfl
  have hW : ∀ W, W = (w.alloc (.cells #[.pointer (some ⟨b, 0, none⟩)] 26)).alloc (.cells #[(.int .i64 0)] 2) → Ch [] w W ∧ W.heap[w.heap.size]? = some (.cells #[.pointer (some ⟨b, 0, none⟩)] 26 (0, 0)) ∧ W.heap[w.heap.size + 1]? = some (.cells #[(.int .i64 0)] 2 (0, 0)) ∧ W.heap.size = w.heap.size + 2 := by
    rintro W rfl
    exact ⟨((Ch.refl _ _).alloc _).alloc _, heap_alloc2_old w _ _, heap_alloc2_new w _ _, by simp⟩
  cases st with
  | none =>
    have hf := fun f => try_failed f b g ((w.alloc (.cells #[.pointer (some ⟨b, 0, none⟩)] 26)).alloc (.cells #[(.int .i64 0)] 2)) (h.nil (hW _ rfl).1)
    have hch := (hW _ rfl).1
    clear hW
    go_enter Try.func23, Try.ntmps23
    go_wp2_with fail
    refine (hf _).mono ?_
    rintro e w1 ⟨rfl, h2⟩
    clear hf
    go_wp2_with fail
    go_ret
    exact ⟨rfl, (h.nil hch).nil h2, (hch.trans' h2).mono (by simp)⟩
  | some l =>
    obtain ⟨hch, hp, hX, hsz⟩ := hW _ rfl
    clear hW
    have hT := try_any 67 #[.pointer (some ⟨w.heap.size, 0, none⟩), .pointer (some ⟨w.heap.size + 1, 0, none⟩)] b g (w.heap.size + 1) 2 (rInt l) l _ (by intro W; kernel_rfl) (by omega) (h.nil hch)
      (fun W hc => cint _ _ b g l _ W (hc.at_ hp (by simp)) (hc.at_ hX (by simp)) (by omega) (by omega) ((h.nil hch).nil hc))
    clear hp hX hsz
    go_enter Try.func23, Try.ntmps23
    go_wp2_with fail
    refine hT.mono ?_
    rintro e w1 ⟨rfl, hc1, he⟩
    clear hT
    have hcw : Ch [b] w w1 := (hch.mono (G := [b]) (by simp)).trans hc1 (by simp)
    cases hd : rInt l with
    | none =>
      rw [hd] at he
      go_wp2_with fail
      go_ret
      exact ⟨by simp [hd, ans], by simpa [hd] using he, hcw⟩
    | some q =>
      obtain ⟨v, l'⟩ := q
      rw [hd] at he
      obtain ⟨hl', hX'⟩ := he
      have hXc := cell_at hX' 0 rfl
      obtain ⟨x, rfl⟩ := rInt_shape hd
      have Hd := Lib.hid hd
      clear hd
      go_wp2_with fail
      go_ret
      exact ⟨by simp [Hd.out, ans], by simpa [Hd.out] using hl', hcw⟩

set_option maxRecDepth 100000 in
theorem ctext (p X b g : Nat) (l : List UInt8) (v0 : Value) (w : World) (hp : w.heap[p]? = some (.cells #[.pointer (some ⟨b, 0, none⟩)] 26 (0, 0))) (hX : w.heap[X]? = some (.cells #[v0] 9 (0, 0))) (hXb : X ≠ b) (hXg : X ≠ g) (h : IsRd w b g (some l)) :
    Calls Try.prog 75 #[.pointer (some ⟨p, 0, none⟩), .pointer (some ⟨X, 0, none⟩)] w (CPost w b g X 9 (rText l)) := by
  have hpc := cell_at hp 0 rfl
  go_enter Try.func75, Try.ntmps75
  go_wp2_with fail
  refine (text_any b g l _ h).mono ?_
  rintro e w1 ⟨hc, he⟩
  cases hd : rText l with
  | none =>
    rw [hd] at he
    obtain ⟨rfl, l', hl'⟩ := he
    exact ⟨rfl, hc.mono (by simp), rfl, l', hl'⟩
  | some q =>
    obtain ⟨v, l'⟩ := q
    rw [hd] at he
    obtain ⟨rfl, hl'⟩ := he
    have hX1 := hc.at_ hX (by simpa using hXb)
    have hXc := cell_at hX1 0 rfl
    have hXf := free_at hX1 0
    obtain ⟨x, rfl⟩ := rText_shape hd
    have Hd := Lib.hid hd
    clear hd
    go_wp2_with fail
    go_end0
    have hset : Ch [X] w1 (w1.setCell ⟨X, 0, none⟩ (.string x)) := (Ch.refl _ _).setCell _ _ (by simp)
    refine ⟨(hc.mono (G := [b, X]) (by simp)).setCell _ _ (by simp), ?_⟩
    rw [Hd.out]
    refine ⟨rfl, hl'.keep hset (by simpa using fun e => hXb e.symm) (by simpa using fun e => hXg e.symm), ?_⟩
    have := heap_setCell_same w1 X 0 _ 9 (.string x) hX1
    simpa using this

set_option maxRecDepth 100000 in
theorem rtext (b g : Nat) (st : Option (List UInt8)) (w : World) (h : IsRd w b g st) :
    Calls Try.prog 36 #[.pointer (some ⟨b, 0, none⟩)] w fun e w' => e = .returned (ans (.string ⟨#[]⟩) (st.bind rText)) ∧ IsRd w' b g ((st.bind rText).map (·.2)) ∧ Ch [b] w w' := by
  have hlt := h.lt
  have hgl := h.1
  have hmf : ∀ (fn : Fn) (first cap : Array Value) (w : World), (Instr.makeFunc fn first cap).run Try.prog w = .ok (.func fn first cap) w := fun _ _ _ _ => rfl
  have hW : ∀ W, W = (w.alloc (.cells #[.pointer (some ⟨b, 0, none⟩)] 26)).alloc (.cells #[(.string ⟨#[]⟩)] 9) → Ch [] w W ∧ W.heap[w.heap.size]? = some (.cells #[.pointer (some ⟨b, 0, none⟩)] 26 (0, 0)) ∧ W.heap[w.heap.size + 1]? = some (.cells #[(.string ⟨#[]⟩)] 9 (0, 0)) ∧ W.heap.size = w.heap.size + 2 := by
    rintro W rfl
    exact ⟨((Ch.refl _ _).alloc _).alloc _, heap_alloc2_old w _ _, heap_alloc2_new w _ _, by simp⟩
  cases st with
  | none =>
    have hf := fun f => try_failed f b g ((w.alloc (.cells #[.pointer (some ⟨b, 0, none⟩)] 26)).alloc (.cells #[(.string ⟨#[]⟩)] 9)) (h.nil (hW _ rfl).1)
    have hch := (hW _ rfl).1
    clear hW
    go_enter Try.func36, Try.ntmps36
    go_wp2_with fail
    refine (hf _).mono ?_
    rintro e w1 ⟨rfl, h2⟩
    clear hf
    go_wp2_with fail
    go_ret
    exact ⟨rfl, (h.nil hch).nil h2, (hch.trans' h2).mono (by simp)⟩
  | some l =>
    obtain ⟨hch, hp, hX, hsz⟩ := hW _ rfl
    clear hW
    have hT := try_any 75 #[.pointer (some ⟨w.heap.size, 0, none⟩), .pointer (some ⟨w.heap.size + 1, 0, none⟩)] b g (w.heap.size + 1) 9 (rText l) l _ (by intro W; kernel_rfl) (by omega) (h.nil hch)
      (fun W hc => ctext _ _ b g l _ W (hc.at_ hp (by simp)) (hc.at_ hX (by simp)) (by omega) (by omega) ((h.nil hch).nil hc))
    clear hp hX hsz
    go_enter Try.func36, Try.ntmps36
    go_wp2_with fail
    refine hT.mono ?_
    rintro e w1 ⟨rfl, hc1, he⟩
    clear hT
    have hcw : Ch [b] w w1 := (hch.mono (G := [b]) (by simp)).trans hc1 (by simp)
    cases hd : rText l with
    | none =>
      rw [hd] at he
      go_wp2_with fail
      go_ret
      exact ⟨by simp [hd, ans], by simpa [hd] using he, hcw⟩
    | some q =>
      obtain ⟨v, l'⟩ := q
      rw [hd] at he
      obtain ⟨hl', hX'⟩ := he
      have hXc := cell_at hX' 0 rfl
      obtain ⟨x, rfl⟩ := rText_shape hd
      have Hd := Lib.hid hd
      clear hd
      go_wp2_with fail
      go_ret
      exact ⟨by simp [Hd.out, ans], by simpa [Hd.out] using hl', hcw⟩

set_option maxRecDepth 100000 in
theorem cbool (p X b g : Nat) (l : List UInt8) (v0 : Value) (w : World) (hp : w.heap[p]? = some (.cells #[.pointer (some ⟨b, 0, none⟩)] 26 (0, 0))) (hX : w.heap[X]? = some (.cells #[v0] 4 (0, 0))) (hXb : X ≠ b) (hXg : X ≠ g) (h : IsRd w b g (some l)) :
    Calls Try.prog 77 #[.pointer (some ⟨p, 0, none⟩), .pointer (some ⟨X, 0, none⟩)] w (CPost w b g X 4 (rBool l)) := by
  have hpc := cell_at hp 0 rfl
  go_enter Try.func77, Try.ntmps77
  go_wp2_with fail
  refine (bool_any b g l _ h).mono ?_
  rintro e w1 ⟨hc, he⟩
  cases hd : rBool l with
  | none =>
    rw [hd] at he
    obtain ⟨rfl, l', hl'⟩ := he
    exact ⟨rfl, hc.mono (by simp), rfl, l', hl'⟩
  | some q =>
    obtain ⟨v, l'⟩ := q
    rw [hd] at he
    obtain ⟨rfl, hl'⟩ := he
    have hX1 := hc.at_ hX (by simpa using hXb)
    have hXc := cell_at hX1 0 rfl
    have hXf := free_at hX1 0
    obtain ⟨x, rfl⟩ := rBool_shape hd
    have Hd := Lib.hid hd
    clear hd
    go_wp2_with fail
    go_end0
    have hset : Ch [X] w1 (w1.setCell ⟨X, 0, none⟩ (.bool x)) := (Ch.refl _ _).setCell _ _ (by simp)
    refine ⟨(hc.mono (G := [b, X]) (by simp)).setCell _ _ (by simp), ?_⟩
    rw [Hd.out]
    refine ⟨rfl, hl'.keep hset (by simpa using fun e => hXb e.symm) (by simpa using fun e => hXg e.symm), ?_⟩
    have := heap_setCell_same w1 X 0 _ 4 (.bool x) hX1
    simpa using this

set_option maxRecDepth 100000 in
theorem rbool (b g : Nat) (st : Option (List UInt8)) (w : World) (h : IsRd w b g st) :
    Calls Try.prog 38 #[.pointer (some ⟨b, 0, none⟩)] w fun e w' => e = .returned (ans (.bool false) (st.bind rBool)) ∧ IsRd w' b g ((st.bind rBool).map (·.2)) ∧ Ch [b] w w' := by
  have hlt := h.lt
  have hgl := h.1
  have hmf : ∀ (fn : Fn) (first cap : Array Value) (w : World), (Instr.makeFunc fn first cap).run Try.prog w = .ok (.func fn first cap) w := fun _ _ _ _ => rfl
  have hW : ∀ W, W = (w.alloc (.cells #[.pointer (some ⟨b, 0, none⟩)] 26)).alloc (.cells #[(.bool false)] 4) → Ch [] w W ∧ W.heap[w.heap.size]? = some (.cells #[.pointer (some ⟨b, 0, none⟩)] 26 (0, 0)) ∧ W.heap[w.heap.size + 1]? = some (.cells #[(.bool false)] 4 (0, 0)) ∧ W.heap.size = w.heap.size + 2 := by
    rintro W rfl
    exact ⟨((Ch.refl _ _).alloc _).alloc _, heap_alloc2_old w _ _, heap_alloc2_new w _ _, by simp⟩
  cases st with
  | none =>
    have hf := fun f => try_failed f b g ((w.alloc (.cells #[.pointer (some ⟨b, 0, none⟩)] 26)).alloc (.cells #[(.bool false)] 4)) (h.nil (hW _ rfl).1)
    have hch := (hW _ rfl).1
    clear hW
    go_enter Try.func38, Try.ntmps38
    go_wp2_with fail
    refine (hf _).mono ?_
    rintro e w1 ⟨rfl, h2⟩
    clear hf
    go_wp2_with fail
    go_ret
    exact ⟨rfl, (h.nil hch).nil h2, (hch.trans' h2).mono (by simp)⟩
  | some l =>
    obtain ⟨hch, hp, hX, hsz⟩ := hW _ rfl
    clear hW
    have hT := try_any 77 #[.pointer (some ⟨w.heap.size, 0, none⟩), .pointer (some ⟨w.heap.size + 1, 0, none⟩)] b g (w.heap.size + 1) 4 (rBool l) l _ (by intro W; kernel_rfl) (by omega) (h.nil hch)
      (fun W hc => cbool _ _ b g l _ W (hc.at_ hp (by simp)) (hc.at_ hX (by simp)) (by omega) (by omega) ((h.nil hch).nil hc))
    clear hp hX hsz
    go_enter Try.func38, Try.ntmps38
    go_wp2_with fail
    refine hT.mono ?_
    rintro e w1 ⟨rfl, hc1, he⟩
    clear hT
    have hcw : Ch [b] w w1 := (hch.mono (G := [b]) (by simp)).trans hc1 (by simp)
    cases hd : rBool l with
    | none =>
      rw [hd] at he
      go_wp2_with fail
      go_ret
      exact ⟨by simp [hd, ans], by simpa [hd] using he, hcw⟩
    | some q =>
      obtain ⟨v, l'⟩ := q
      rw [hd] at he
      obtain ⟨hl', hX'⟩ := he
      have hXc := cell_at hX' 0 rfl
      obtain ⟨x, rfl⟩ := rBool_shape hd
      have Hd := Lib.hid hd
      clear hd
      go_wp2_with fail
      go_ret
      exact ⟨by simp [Hd.out, ans], by simpa [Hd.out] using hl', hcw⟩

/-- What Done answers. -/
def doneV (st : Option (List UInt8)) : Int := match st with | some [] => 0 | _ => 20
theorem doneV_not {l : List UInt8} (h : l ≠ []) : doneV (some l) = 20 := by
  cases l with
  | nil => exact absurd rfl h
  | cons a r => rfl

set_option maxRecDepth 100000 in
theorem rdone (b g : Nat) (st : Option (List UInt8)) (w : World) (h : IsRd w b g st) :
    Calls Try.prog 24 #[.pointer (some ⟨b, 0, none⟩)] w fun e w' => e = .returned (.int .i64 (doneV st)) ∧ w = w' := by
  obtain ⟨_, A, n, c, f, hb, hA, hst⟩ := h
  have hb0 := cell_at hb 0 rfl
  have hb1 := cell_at hb 1 rfl
  cases st with
  | none =>
    obtain rfl : f = true := hst
    go_enter Try.func24, Try.ntmps24
    go_wp2
    go_ret
    exact ⟨rfl, rfl⟩
  | some l =>
    obtain ⟨rfl, hrd, _⟩ := hst
    have hl := hrd.length
    by_cases hn : n = 0
    · subst hn
      obtain rfl : l = [] := List.eq_nil_of_length_eq_zero hl
      go_enter Try.func24, Try.ntmps24
      go_wp2
      go_ret
      exact ⟨rfl, rfl⟩
    · have hn' : (0 : Int) < (n : Int) := by omega
      have hne : doneV (some l) = 20 := doneV_not (by rintro rfl; simp at hl; omega)
      have Hne := Lib.hid hne
      clear hne hl
      go_enter Try.func24, Try.ntmps24
      go_wp2
      go_ret
      rw [Hne.out]
      exact ⟨rfl, rfl⟩

end Go.Proofs.Ytbkncfedahifkaa
