/-
  The statements of layer 5: key, value.
-/
import Derived.Test.YtbkncfedahifkaaGreatPStore
set_option linter.unusedVariables false
set_option linter.unusedSimpArgs false
namespace Go.Proofs.YtbkncfedahifkaaGreat
open Go.RowKit Go.Maps Go.Sort Go.Shelf

/-- The seven keys. -/
def keyN : Nat → List UInt8
  | 0 => [97]
  | 1 => [97, 47, 98]
  | 2 => []
  | 3 => [98]
  | 4 => [97, 47]
  | 5 => [122, 122]
  | _ => [97, 47, 99]
theorem keyN_le (j : Nat) : (keyN j).length ≤ 3 := by
  unfold keyN
  split <;> simp
theorem keyN_inj : ∀ i, i < 7 → ∀ j, j < 7 → keyN i = keyN j → i = j := by decide

set_option maxRecDepth 100000 in
theorem key5_at (a : Int) (j : Nat) (hj : j < 7) (ha : a % 7 = (j : Int)) (ha0 : 0 ≤ a) (w : World) :
    Calls Tryz.prog 21 #[.int .u8 a] w fun e w' => e = .returned (.string (str (keyN j))) ∧ Ch [] w w' := by
  have hc : Ch [] w (w.alloc (.cells #[.string ⟨#[97]⟩, .string ⟨#[97, 47, 98]⟩, .string ⟨#[]⟩, .string ⟨#[98]⟩, .string ⟨#[97, 47]⟩, .string ⟨#[122, 122]⟩, .string ⟨#[97, 47, 99]⟩] 9)) := (Ch.refl [] w).alloc _
  have hb := heap_alloc_new w (.cells #[.string ⟨#[97]⟩, .string ⟨#[97, 47, 98]⟩, .string ⟨#[]⟩, .string ⟨#[98]⟩, .string ⟨#[97, 47]⟩, .string ⟨#[122, 122]⟩, .string ⟨#[97, 47, 99]⟩] 9)
  have hcell : (w.alloc (.cells #[.string ⟨#[97]⟩, .string ⟨#[97, 47, 98]⟩, .string ⟨#[]⟩, .string ⟨#[98]⟩, .string ⟨#[97, 47]⟩, .string ⟨#[122, 122]⟩, .string ⟨#[97, 47, 99]⟩] 9)).cell? ⟨w.heap.size, j, none⟩ = some (.string (str (keyN j))) := by
    refine cell_at hb j ?_
    have : j = 0 ∨ j = 1 ∨ j = 2 ∨ j = 3 ∨ j = 4 ∨ j = 5 ∨ j = 6 := by omega
    rcases this with rfl | rfl | rfl | rfl | rfl | rfl | rfl <;> rfl
  have hj7 : (j : Int) < 7 := by omega
  have ht : a.tmod 7 = (j : Int) := by rw [Int.tmod_eq_emod_of_nonneg ha0]; exact ha
  clear hb
  generalize str (keyN j) = s at *
  go_enter Tryz.func21, Tryz.ntmps21
  go_wp2_with fail
  go_ret
  exact ⟨rfl, hc⟩

set_option maxRecDepth 100000 in
set_option maxHeartbeats 1000000 in
theorem value5_any (i n : Nat) (w : World) (hi : i ≤ 1000000) (hn : n ≤ 1000) :
    Calls Tryz.prog 22 #[.int .i64 (i : Int), .int .i64 (n : Int)] w fun e w' => ∃ v : List UInt8, v.length = n ∧ e = .returned (.string (str v)) ∧ Ch [] w w' := by
  obtain ⟨w1, hmk, how, hc1⟩ := make_bytes n w (by omega)
  have hs1 := own_lt how _ rfl
  go_enter Tryz.func22, Tryz.ntmps22
  go_wp2_with fail
  clear hmk
  generalize hx : w.heap.size = x at *
  go_loopw [6] (fun ki wr => ∃ (k : Nat) (l : List UInt8), k ≤ n ∧ ki = .int .i64 (k : Int) ∧ l.length = n ∧ wr.ownsRow x 5 1 (.slice (some ⟨x, 0, none⟩) n n) n (bvs l) ∧ Ch [x] w1 wr) (fun ki _ => n - (intOf ki).toNat)
  case atStart => exact ⟨0, _, by omega, rfl, List.length_replicate, how, Ch.refl _ _⟩
  case round =>
    clear how
    obtain ⟨k, l, hk, rfl, hl, hrow, hch⟩ := hrel
    obtain ⟨wA, hwA⟩ : ∃ W, W = wr := ⟨_, rfl⟩
    subst hwA
    have HL := Lib.hid hl
    by_cases hlt : k < n
    · have hxc := row_byte hrow k (l[k]'(by omega)).toNat (by rw [List.getElem?_eq_getElem (by omega)]; rfl)
      have hxf := hrow.frozenAt k
      obtain ⟨y, hy1, hy2⟩ := bv_of ((13 * (i : Int) + (k : Int)) % 256) (by omega) (by omega)
      have hset := (hrow.stored k (bv y)).1
      have hbs : (bvs l).set k (bv y) = bvs (l.set k y) := by simp [bvs, List.map_set]
      rw [hbs] at hset
      have hch2 := hch.setCell ⟨x, k, none⟩ (bv y) (by simp)
      have hby : bv y = .int .u8 ((13 * (i : Int) + (k : Int)) % 256) := hy1.symm
      rw [hby] at hset hch2
      generalize (l[k]'(by omega)).toNat = z at *
      clear hl hy1 hy2 hby hbs
      go_wp2_with fail
      refine ⟨⟨k + 1, _, by omega, by go_num, by rw [List.length_set]; exact HL.out, hset, hch2⟩, ?_⟩
      simp [intOf]
      omega
    · obtain rfl : k = n := by omega
      clear hlt hk hl
      have hcv := conv_str (own_rd hrow) 45 5 9 Tryz.underlying45 Tryz.underlying5 Tryz.underlying9
      go_wp2_with fail
      go_ret
      exact ⟨l, HL.out, rfl, hc1.trans hch (by simp; omega)⟩

end Go.Proofs.YtbkncfedahifkaaGreat
