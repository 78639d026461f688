/-
  The statements of layer 2: parts; put, light, l2.
-/
import Derived.Test.YtbkncfedahifkaaRefNum
set_option linter.unusedVariables false
namespace Go.Proofs.Ytbkncfedahifkaa
open Go.RowKit

/-- Part: of what is written: 0 a number, 1 an integer, 2 a text, 3 a truth. -/
structure PartL where
  what : Nat
  n : Nat
  t : ByteArray
structure PartL.ok (p : PartL) : Prop where
  what : p.what < 256
  n : p.n < 18446744073709551616
def PartL.cells (p : PartL) : List Value := [.int .u8 (p.what : Int), .int .u64 (p.n : Int), .string p.t]
def partCells (l : List PartL) : List Value := l.flatMap PartL.cells
theorem partCells_length (l : List PartL) : (partCells l).length = l.length * 3 := by
  induction l with
  | nil => rfl
  | cons a l ih => simp only [partCells, List.flatMap_cons, List.length_append, List.length_cons] at ih ⊢; rw [ih]; simp [PartL.cells]; omega
theorem partCells_get (l : List PartL) : ∀ (k : Nat) (h : k < l.length) (i : Nat), i < 3 → (partCells l)[k * 3 + i]? = (l[k].cells)[i]? := by
  induction l with
  | nil => intro k h; simp at h
  | cons a l ih =>
    intro k h i hi
    simp only [partCells, List.flatMap_cons]
    cases k with
    | zero =>
      rw [List.getElem?_append_left (by simp [PartL.cells]; omega)]
      simp
    | succ k =>
      rw [List.getElem?_append_right (by simp [PartL.cells]; omega)]
      have e : (k + 1) * 3 + i - a.cells.length = k * 3 + i := by simp [PartL.cells]; omega
      rw [e]
      have := ih k (by simpa using h) i hi
      simpa [partCells] using this

/-- A part's bytes. -/
def PartL.bytes (p : PartL) : List UInt8 :=
  if p.what % 4 = 0 then encN p.n else if p.what % 4 = 1 then encN (zz (wrap64 (p.n : Int))) else if p.what % 4 = 2 then encT p.t.data.toList else encB (decide (p.n % 2 = 1))
theorem wrap64_bd (n : Int) : -9223372036854775808 ≤ wrap64 n ∧ wrap64 n ≤ 9223372036854775807 := by unfold wrap64; omega
theorem PartL.bytes_len (p : PartL) (h : p.ok) (ht : p.t.size < 18446744073709551616) : p.bytes.length ≤ 10 + p.t.size := by
  unfold PartL.bytes
  split
  · have := encN_len10 h.n; omega
  · split
    · have := encN_len10 (zz_lt (wrap64_bd p.n).1 (wrap64_bd p.n).2); omega
    · split
      · have := encT_len p.t.data.toList (by show p.t.size < _; omega)
        have e : p.t.data.toList.length = p.t.size := rfl
        omega
      · simp [encB]; omega

set_option maxRecDepth 100000 in
set_option maxHeartbeats 800000 in
theorem put_any (v : Value) (o : Option Nat) (l : List UInt8) (p : PartL) (w : World) (hv : BSl w v o l) (hp : p.ok) (hlen : l.length + 10 + p.t.size ≤ 140737488355328) :
    Calls Try.prog 27 #[v, .agg #[.int .u8 (p.what : Int), .int .u64 (p.n : Int), .string p.t]] w fun e w' => ∃ v', e = .returned v' ∧ SlSt w o (l ++ p.bytes) w' v' := by
  obtain ⟨what, n, t⟩ := p
  obtain ⟨hw, hn⟩ := hp
  simp only at hw hn hlen ⊢
  have hva := hv.alloc (.cells #[.int .u8 (what : Int), .int .u64 (n : Int), .string t] 40)
  have hch : Ch [] w (w.alloc (.cells #[.int .u8 (what : Int), .int .u64 (n : Int), .string t] 40)) := (Ch.refl _ _).alloc _
  have back : ∀ l2 w2 v2, SlSt (w.alloc (.cells #[.int .u8 (what : Int), .int .u64 (n : Int), .string t] 40)) o l2 w2 v2 → SlSt w o l2 w2 v2 := by
    rintro l2 w2 v2 ⟨o', h1, h2, h3, h4⟩
    exact ⟨o', h1, h2, fun k hk => by rcases h3 k hk with h | h; exact .inl h; right; simp at h; omega, (hch.mono (by simp)).trans' h4⟩
  have Back := Lib.hid back
  clear back hch
  have hm : what % 4 = 0 ∨ what % 4 = 1 ∨ what % 4 = 2 ∨ what % 4 = 3 := by omega
  have hi1 := wrap64_bd (n : Int)
  have Hn := Lib.hid hn
  have Hw := Lib.hid hw
  rcases hm with hm | hm | hm | hm
  · have hb : (PartL.mk what n t).bytes = encN n := by simp [PartL.bytes, hm]
    have Hb := Lib.hid hb
    clear hb hi1
    have e0 : ((what : Int) % 4 == 0) = true := by simp; omega
    clear hm hn
    go_enter Try.func27, Try.ntmps27
    go_wp2_with fail
    refine (refnum v o l n _ hva Hn.out (by omega)).mono ?_
    rintro e w1 ⟨v1, rfl, h⟩
    go_wp2_with fail
    go_ret
    refine ⟨v1, rfl, ?_⟩
    rw [Hb.out]
    exact Back.out _ _ _ h
  · have hb : (PartL.mk what n t).bytes = encN (zz (wrap64 (n : Int))) := by simp [PartL.bytes, hm]
    have Hb := Lib.hid hb
    clear hb
    have e0 : ((what : Int) % 4 == 0) = false := by simp; omega
    have e1 : ((what : Int) % 4 == 1) = true := by simp; omega
    clear hm hn
    have Hi1 := Lib.hid hi1
    clear hi1
    go_enter Try.func27, Try.ntmps27
    go_wp2_with fail
    refine (refint v o l _ _ hva Hi1.out.1 Hi1.out.2 (by omega)).mono ?_
    rintro e w1 ⟨v1, rfl, h⟩
    go_wp2_with fail
    go_ret
    refine ⟨v1, rfl, ?_⟩
    rw [Hb.out]
    exact Back.out _ _ _ h
  · have hb : (PartL.mk what n t).bytes = encT t.data.toList := by simp [PartL.bytes, hm]
    have Hb := Lib.hid hb
    clear hb hi1
    have e0 : ((what : Int) % 4 == 0) = false := by simp; omega
    have e1 : ((what : Int) % 4 == 1) = false := by simp; omega
    have e2 : ((what : Int) % 4 == 2) = true := by simp; omega
    clear hm hn
    go_enter Try.func27, Try.ntmps27
    go_wp2_with fail
    refine (reftext v o l t _ hva (by omega)).mono ?_
    rintro e w1 ⟨v1, rfl, h⟩
    go_wp2_with fail
    go_ret
    refine ⟨v1, rfl, ?_⟩
    rw [Hb.out]
    exact Back.out _ _ _ h
  · have hb : (PartL.mk what n t).bytes = encB ((n : Int) % 2 == 1) := by
      have e : decide (n % 2 = 1) = ((n : Int) % 2 == 1) := by rw [Bool.eq_iff_iff]; simp; omega
      simp [PartL.bytes, hm, e]
    have Hb := Lib.hid hb
    clear hb hi1
    have e0 : ((what : Int) % 4 == 0) = false := by simp; omega
    have e1 : ((what : Int) % 4 == 1) = false := by simp; omega
    have e2 : ((what : Int) % 4 == 2) = false := by simp; omega
    clear hm hn
    go_enter Try.func27, Try.ntmps27
    go_wp2_with fail
    refine (refbool v o l _ _ hva (by omega)).mono ?_
    rintro e w1 ⟨v1, rfl, h⟩
    go_wp2_with fail
    go_ret
    refine ⟨v1, rfl, ?_⟩
    rw [Hb.out]
    exact Back.out _ _ _ h

/-! ### light -/
def lightB (l : List PartL) : Bool := decide (l.length ≤ 12) && l.all fun p => decide (p.t.size ≤ 100)

set_option maxRecDepth 100000 in
set_option maxHeartbeats 800000 in
theorem light_any (A : Option Addr) (n c : Nat) (l : List PartL) (w : World) (hr : Rd 3 w A n c (partCells l)) :
    Calls Try.prog 26 #[.slice A n c] w fun e w' => e = .returned (.bool (lightB l)) ∧ w = w' := by
  have hn : l.length = n := by have := hr.len; rw [partCells_length] at this; omega
  by_cases h12 : 12 < n
  · have hL : lightB l = false := by simp [lightB]; omega
    have HL := Lib.hid hL
    clear hL
    go_enter Try.func26, Try.ntmps26
    go_wp2
    go_ret
    rw [HL.out]
    exact ⟨rfl, rfl⟩
  · go_enter Try.func26, Try.ntmps26
    go_wp2
    go_loop [3] (fun i => ∃ k : Nat, k ≤ n ∧ i = .int .i64 k ∧ ∀ p ∈ l.take k, p.t.size ≤ 100) (fun i => n - (intOf i).toNat)
    case atStart => exact ⟨0, Nat.zero_le _, rfl, by simp⟩
    case round =>
      obtain ⟨k, hk, rfl, hall⟩ := hrel
      have Hall := Lib.hid hall
      clear hall
      by_cases hlt : k < n
      · have hk' : k < l.length := by omega
        obtain ⟨ab, ao, rfl, hcell⟩ := hr.cells (by omega)
        have hx : w.cell? ⟨ab, ao + k * 3 + 2, none⟩ = some (.string l[k].t) := by
          have := hcell (k * 3 + 2) (.string l[k].t) (by rw [partCells_get l k hk' 2 (by omega)]; rfl)
          rwa [← Nat.add_assoc] at this
        clear hcell
        by_cases h100 : 100 < l[k].t.size
        · have hL : lightB l = false := by
            simp only [lightB, Bool.and_eq_false_iff, List.all_eq_false]
            right
            exact ⟨l[k], List.getElem_mem hk', by simp; omega⟩
          have HL := Lib.hid hL
          clear hL
          go_wp2
          go_ret
          rw [HL.out]
          exact ⟨rfl, rfl⟩
        · go_wp2
          go_round
          case rel =>
            refine ⟨k + 1, by omega, by go_num, ?_⟩
            rw [List.take_succ_eq_append_getElem hk']
            intro p hp
            rcases List.mem_append.1 hp with hp | hp
            · exact Hall.out p hp
            · simp at hp; subst hp; omega
          case measure => simp [intOf]; omega
      · have hL : lightB l = true := by
          have e := Hall.out
          rw [List.take_of_length_le (by omega)] at e
          simp only [lightB, Bool.and_eq_true, decide_eq_true_eq, List.all_eq_true]
          exact ⟨by omega, e⟩
        have HL := Lib.hid hL
        clear hL
        go_wp2
        go_ret
        rw [HL.out]
        exact ⟨rfl, rfl⟩

end Go.Proofs.Ytbkncfedahifkaa
