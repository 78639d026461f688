/-
  Package code, the writer: the contract of Int.
-/
import Derived.Test.YtbkncfedahifkaaWNum
import Derived.Lib.Zigzag
set_option linter.unusedVariables false
namespace Go.Proofs.Ytbkncfedahifkaa
open Go.RowKit

def i64s (ns : List Int) : List Value := ns.map fun (x : Int) => Value.int .i64 x

theorem bits_xor_comm (k : IntKind) (a b : Int) : bits BinOp.xor k a b = bits BinOp.xor k b a := by
  show k.wrap ((BitVec.ofInt k.bits a ^^^ BitVec.ofInt k.bits b).toNat : Int) = k.wrap ((BitVec.ofInt k.bits b ^^^ BitVec.ofInt k.bits a).toNat : Int)
  rw [BitVec.xor_comm]

theorem zig_bits (x : Int) (h0 : -9223372036854775808 ≤ x) (h1 : x ≤ 9223372036854775807) :
    bits BinOp.xor IntKind.u64 (IntKind.u64.wrap (IntKind.u64.wrap x * 2)) (IntKind.u64.wrap (x / 9223372036854775808)) = (zz x : Int) := by
  by_cases hx : x < 0
  · have e : IntKind.u64.wrap (x / 9223372036854775808) = IntKind.u64.max := by
      have : x / 9223372036854775808 = -1 := by omega
      rw [this]
      rfl
    rw [e, bits_xor_comm, Lib.zigzag_neg h0 hx]
    simp only [zz, Lib.zigzag, if_pos hx, if_neg (show ¬ 0 ≤ x by omega)]
    omega
  · have e : IntKind.u64.wrap (x / 9223372036854775808) = 0 := by
      have : x / 9223372036854775808 = 0 := by omega
      rw [this]
      rfl
    have e2 : IntKind.u64.wrap (IntKind.u64.wrap x * 2) = (((x * 2).toNat : Nat) : Int) := by
      rw [IntKind.wrap_u64, IntKind.wrap_u64]
      omega
    rw [e, e2]
    simp only [zz, if_neg hx]
    have := bits_xor_u64_nat (x * 2).toNat 0 (by omega) (by omega)
    simpa using this

set_option maxRecDepth 100000 in
set_option maxHeartbeats 800000 in
theorem wint0 (b : Nat) (o : Option Nat) (l : List UInt8) (A : Option Addr) (n c : Nat) (ns : List Int) (w : World) (hw : IsWr w b o l) (hr : Rd 1 w A n c (i64s ns))
    (hns : ∀ x ∈ ns, -9223372036854775808 ≤ x ∧ x ≤ 9223372036854775807) (hlen : l.length + 10 * n ≤ 140737488355328) (hA : 0 < n → ∀ a, A = some a → a.block ≠ b ∧ o ≠ some a.block) :
    Calls Try.prog 20 #[.pointer (some ⟨b, 0, none⟩), .slice A n c] w fun e w' => e = .returned (.tuple #[]) ∧ WSt w b o (l ++ encs (ns.map zz)) w' := by
  have hn : ns.length = n := by have := hr.len; simpa [i64s] using this
  have hnb : n ≤ 100000000000000 := by omega
  go_enter Try.func20, Try.ntmps20
  go_wp2
  go_loopw [8] (fun i wr => ∃ k : Nat, k ≤ n ∧ i = .int .i64 k ∧ WSt w b o (l ++ encs ((ns.map zz).take k)) wr) (fun i _ => n - (intOf i).toNat)
  case atStart => exact ⟨0, Nat.zero_le _, rfl, by simpa [encs] using WSt.start hw⟩
  case round =>
    obtain ⟨k, hk, rfl, hst⟩ := hrel
    by_cases hlt : k < n
    · have hk' : k < ns.length := by omega
      obtain ⟨o', hw', ho', hch, hthen⟩ := hst.then
      obtain ⟨ab, ao, rfl, hcell⟩ := hr.cells (by omega)
      have hxc : wr.cell? ⟨ab, ao + k, none⟩ = some (.int .i64 ns[k]) := by
        refine hch.cell (hcell k _ (by simp [i64s, hk'])) ?_
        have := hA (by omega) _ rfl
        simp only [List.mem_cons, Option.mem_toList, not_or]
        exact ⟨this.1, fun h => this.2 (by simpa using h)⟩
      clear hcell
      have hx64 := hns ns[k] (List.getElem_mem hk')
      generalize hx : ns[k] = x at *
      have Hx := Lib.hid hx; clear hx
      have Hx64 := Lib.hid hx64; clear hx64
      have Hns := Lib.hid hns; clear hns
      have hzl := zz_lt Hx64.out.1 Hx64.out.2
      have hzb := zig_bits x Hx64.out.1 Hx64.out.2
      have hwa : IsWr (wr.alloc (.cells #[.int .u64 (zz x : Int)] 33)) b o' (l ++ encs ((ns.map zz).take k)) := hw'.alloc _
      have hra : Rd 1 (wr.alloc (.cells #[.int .u64 (zz x : Int)] 33)) (some ⟨wr.heap.size, 0, none⟩) 1 1 (u64s [zz x]) :=
        rd_one _ _ _
      have hlb : (l ++ encs ((ns.map zz).take k)).length + 10 * 1 ≤ 140737488355328 := by
        have h1 := encs_len ((ns.map zz).take k) (fun z hz => by
          obtain ⟨q, hq, rfl⟩ := List.mem_map.1 (List.mem_of_mem_take hz)
          exact zz_lt (Hns.out q hq).1 (Hns.out q hq).2)
        simp only [List.length_take, List.length_map] at h1
        simp only [List.length_append]
        omega
      have Hzb := Lib.hid hzb; have Hzl := Lib.hid hzl; clear hzb hzl
      go_wp2_with fail
      rw [Hzb.out]
      refine (wnum b o' _ _ 1 1 [zz x] _ hwa hra (by simpa using Hzl.out) hlb hw'.fresh).mono ?_
      rintro e w' ⟨rfl, hst'⟩
      go_wp2
      go_roundw
      case rel => 
        refine ⟨k + 1, by omega, by go_num, ?_⟩
        have h2 := hthen _ ((Ch.refl _ _).alloc _) _ _ hst'
        rw [encs_take_succ (ns.map zz) k (by simpa using hk'), ← List.append_assoc, List.getElem_map, Hx.out, ← encs_one]
        exact h2
      case measure => simp [intOf]; omega
    · go_wp2
      go_end0
      have e : k = n := by omega
      subst e
      rw [List.take_of_length_le (by simp; omega)] at hst
      exact ⟨rfl, hst⟩
theorem wint (b : Nat) (o : Option Nat) (l : List UInt8) (A : Option Addr) (n c : Nat) (ns : List Int) (w : World) (hw : IsWr w b o l) (hr : Rd 1 w A n c (i64s ns))
    (hns : ∀ x ∈ ns, -9223372036854775808 ≤ x ∧ x ≤ 9223372036854775807) (hlen : l.length + 10 * n ≤ 140737488355328) (hA : ∀ a, A = some a → a.block ≠ b ∧ o ≠ some a.block) :
    Calls Try.prog 20 #[.pointer (some ⟨b, 0, none⟩), .slice A n c] w fun e w' => e = .returned (.tuple #[]) ∧ WSt w b o (l ++ encs (ns.map zz)) w' := wint0 b o l A n c ns w hw hr hns hlen (fun _ => hA)

end Go.Proofs.Ytbkncfedahifkaa
