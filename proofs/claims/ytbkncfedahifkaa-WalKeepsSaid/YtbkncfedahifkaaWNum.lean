/-
  Package code, the writer: the contract of Num.
-/
import Derived.Test.YtbkncfedahifkaaWriter
namespace Go.Proofs.Ytbkncfedahifkaa
open Go.RowKit

def u64s (ns : List Nat) : List Value := ns.map fun (x : Nat) => Value.int .u64 (x : Int)
theorem u64s_length (ns : List Nat) : (u64s ns).length = ns.length := by simp [u64s]

theorem or_more (y : Nat) : bits BinOp.or IntKind.u8 ((y : Int) % 256) 128 = ((UInt8.ofNat (y % 128 + 128)).toNat : Int) := by
  have key : ∀ z : Fin 256, bits BinOp.or IntKind.u8 ((z.val : Int)) 128 = ((UInt8.ofNat (z.val % 128 + 128)).toNat : Int) := by decide +kernel
  have := key ⟨y % 256, Nat.mod_lt _ (by omega)⟩
  have e : ((y % 256 : Nat) : Int) = (y : Int) % 256 := by omega
  have e2 : y % 256 % 128 = y % 128 := by omega
  simp only [e, e2] at this
  exact this
theorem low_byte (y : Nat) (h : y < 128) : (y : Int) = ((UInt8.ofNat y).toNat : Int) := by
  rw [UInt8.toNat_ofNat']
  have : y % 2 ^ 8 = y := Nat.mod_eq_of_lt (by omega)
  rw [this]

/-- In the midst of one number: d is laid, y is left. -/
def NumIn (w0 : World) (b : Nat) (o : Option Nat) (l : List UInt8) (x : Nat) (y : Nat) (w : World) : Prop :=
  ∃ d, encN x = d ++ encN y ∧ y ≤ x ∧ WSt w0 b o (l ++ d) w

theorem len_room {l : List UInt8} {n k x y : Nat} {ns : List Nat} {d : List UInt8} (hl : l.length + 10 * n ≤ 140737488355328) (hn : ns.length = n) (hk : k < ns.length) (hns : ∀ x ∈ ns, x < 18446744073709551616)
    (hx : ns[k] = x) (hd : encN x = d ++ encN y) (hy : 0 < (encN y).length) : (l ++ encs (ns.take k) ++ d).length + 1 ≤ 140737488355328 := by
  have h1 := encs_len (ns.take k) (fun z hz => hns z (List.mem_of_mem_take hz))
  have h2 := encN_len10 (hns ns[k] (List.getElem_mem hk))
  rw [hx, hd, List.length_append] at h2
  rw [List.length_take] at h1
  simp only [List.length_append]
  omega

set_option maxRecDepth 100000 in
set_option maxHeartbeats 800000 in
theorem wnum0 (b : Nat) (o : Option Nat) (l : List UInt8) (A : Option Addr) (n c : Nat) (ns : List Nat) (w : World) (hw : IsWr w b o l) (hr : Rd 1 w A n c (u64s ns))
    (hns : ∀ x ∈ ns, x < 18446744073709551616) (hlen : l.length + 10 * n ≤ 140737488355328) (hA : 0 < n → ∀ a, A = some a → a.block ≠ b ∧ o ≠ some a.block) :
    Calls Try.prog 28 #[.pointer (some ⟨b, 0, none⟩), .slice A n c] w fun e w' => e = .returned (.tuple #[]) ∧ WSt w b o (l ++ encs ns) w' := by
  have hn : ns.length = n := by have := hr.len; simpa [u64s] using this
  have hnb : n ≤ 100000000000000 := by omega
  go_enter Try.func28, Try.ntmps28
  go_wp2
  go_loopw [8] (fun i wr => ∃ k : Nat, k ≤ n ∧ i = .int .i64 k ∧ WSt w b o (l ++ encs (ns.take k)) wr) (fun i _ => n - (intOf i).toNat)
  case atStart => exact ⟨0, Nat.zero_le _, rfl, by simpa [encs] using WSt.start hw⟩
  case round =>
    obtain ⟨k, hk, rfl, hst⟩ := hrel
    by_cases hlt : k < n
    · have hk' : k < ns.length := by omega
      obtain ⟨ab, ao, rfl, hcell⟩ := hr.cells (by omega)
      have hxc : wr.cell? ⟨ab, ao + k, none⟩ = some (.int .u64 (ns[k] : Int)) := by
        obtain ⟨o', h1, h2, h3⟩ := hst
        refine h3.cell (hcell k _ (by simp [u64s, hk'])) ?_
        have := hA (by omega) _ rfl
        simp only [List.mem_cons, Option.mem_toList, not_or]
        exact ⟨this.1, fun h => this.2 (by simpa using h)⟩
      clear hcell
      have hx64 := hns ns[k] (List.getElem_mem hk')
      generalize hx : ns[k] = x at *
      have Hx := Lib.hid hx; clear hx
      have Hx64 := Lib.hid hx64; clear hx64
      have Hns := Lib.hid hns; clear hns
      have Hlen := Lib.hid hlen; clear hlen
      go_wp2
      go_loopw [5] (fun u wr => ∃ y : Nat, u = .int .u64 y ∧ NumIn w b o (l ++ encs (ns.take k)) x y wr) (fun u _ => (intOf u).toNat)
      case atStart => exact ⟨x, rfl, [], by simp, Nat.le_refl _, by simpa using hst⟩
      case round =>
        clear hst hxc
        obtain ⟨y, rfl, d, hd, hyx, hst⟩ := hrel
        obtain ⟨o', ⟨v, hb, hown, hv⟩, ho', hch⟩ := hst
        have hbc := cell_at hb 0 rfl
        have hbf := free_at hb 0
        by_cases hy : 128 ≤ y
        · have hl8 : (l ++ encs (ns.take k) ++ d).length + 1 ≤ 140737488355328 := len_room Hlen.out hn hk' Hns.out Hx.out hd (encN_pos y)
          generalize hcur : l ++ encs (ns.take k) ++ d = cur at *
          have Hcur := Lib.hid hcur; clear hcur
          go_wp2_with (at_builtin; refine app_one rfl (.tmp 20) (.tmp 24) 28 5 (.int .u8 0) 1 rfl Try.underlying28 Try.info5 rfl v _ _ _ rfl rfl rfl hown (Nat.zero_le _) (by omega) (by unfold maxLen; omega) ?_; intro v1 w1 h1 hg hat; obtain ⟨A1, c1, rfl⟩ := own_slice h1; have hb1 := wr_there hb hown hg; have hbc1 := cell_at hb1 0 rfl; have hbf1 := free_at hb1 0)
          go_roundw
          case rel =>
            refine ⟨y / 128, by go_num, d ++ [UInt8.ofNat (y % 128 + 128)], by rw [hd, encN_big hy]; simp, by omega, ?_⟩
            rw [show l ++ encs (ns.take k) ++ (d ++ [UInt8.ofNat (y % 128 + 128)]) = cur ++ [UInt8.ofNat (y % 128 + 128)] from by rw [← Hcur.out]; simp only [List.append_assoc]]
            exact WSt.put hb hv ho' hown hch (own_snoc h1 (or_more y)) hg hat hch.size
          case measure => simp [intOf]; omega
        · have hl8 : (l ++ encs (ns.take k) ++ d).length + 1 ≤ 140737488355328 := len_room Hlen.out hn hk' Hns.out Hx.out hd (encN_pos y)
          generalize hcur : l ++ encs (ns.take k) ++ d = cur at *
          have Hcur := Lib.hid hcur; clear hcur
          go_wp2_with (at_builtin; refine app_one rfl (.tmp 32) (.tmp 35) 28 5 (.int .u8 0) 1 rfl Try.underlying28 Try.info5 rfl v _ _ _ rfl rfl rfl hown (Nat.zero_le _) (by omega) (by unfold maxLen; omega) ?_; intro v1 w1 h1 hg hat; obtain ⟨A1, c1, rfl⟩ := own_slice h1; have hb1 := wr_there hb hown hg; have hbc1 := cell_at hb1 0 rfl; have hbf1 := free_at hb1 0)
          go_roundw
          case rel =>
            refine ⟨k + 1, by omega, by go_num, ?_⟩
            rw [show l ++ encs (ns.take (k + 1)) = cur ++ [UInt8.ofNat y] from by rw [← Hcur.out, encs_take_succ ns k hk', Hx.out, hd, encN_small (show y < 128 by omega)]; simp only [List.append_assoc]]
            exact WSt.put hb hv ho' hown hch (own_snoc h1 (low_byte y (by omega))) hg hat hch.size
          case measure => simp [intOf]; omega
    · go_wp2
      go_end0
      have e : k = n := by omega
      subst e
      rw [List.take_of_length_le (by omega)] at hst
      exact ⟨rfl, hst⟩
theorem wnum (b : Nat) (o : Option Nat) (l : List UInt8) (A : Option Addr) (n c : Nat) (ns : List Nat) (w : World) (hw : IsWr w b o l) (hr : Rd 1 w A n c (u64s ns))
    (hns : ∀ x ∈ ns, x < 18446744073709551616) (hlen : l.length + 10 * n ≤ 140737488355328) (hA : ∀ a, A = some a → a.block ≠ b ∧ o ≠ some a.block) :
    Calls Try.prog 28 #[.pointer (some ⟨b, 0, none⟩), .slice A n c] w fun e w' => e = .returned (.tuple #[]) ∧ WSt w b o (l ++ encs ns) w' := wnum0 b o l A n c ns w hw hr hns hlen (fun _ => hA)

end Go.Proofs.Ytbkncfedahifkaa
