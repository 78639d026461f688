/-
  Package code, the writer: the contracts of Text and Bool.
-/
import Derived.Test.YtbkncfedahifkaaWInt
set_option linter.unusedVariables false
namespace Go.Proofs.Ytbkncfedahifkaa
open Go.RowKit

def strs (ss : List ByteArray) : List Value := ss.map fun s => Value.string s
def byt (ss : List ByteArray) : List (List UInt8) := ss.map fun s => s.data.toList

theorem text_room {l : List UInt8} {q : List (List UInt8)} {n k s : Nat} (h : l.length + 10 * n + bulk q ≤ 140737488355328) (hq : q.length = n) (hk : k < n) (hb : bulk (q.take k) + s ≤ bulk q) :
    (l ++ encTs (q.take k)).length + 10 * 1 + s ≤ 140737488355328 := by
  have h1 := encTs_len (q.take k) (fun z hz => by
    obtain ⟨j, hj, rfl⟩ := List.getElem_of_mem hz
    have hj' : j < q.length := by rw [List.length_take] at hj; omega
    have := bulk_take q j hj'
    rw [List.getElem_take]
    omega)
  rw [List.length_take] at h1
  rw [List.length_append]
  omega

set_option maxRecDepth 100000 in
set_option maxHeartbeats 800000 in
theorem wtext0 (b : Nat) (o : Option Nat) (l : List UInt8) (A : Option Addr) (n c : Nat) (ss : List ByteArray) (w : World) (hw : IsWr w b o l) (hr : Rd 1 w A n c (strs ss))
    (hlen : l.length + 10 * n + bulk (byt ss) ≤ 140737488355328) (hA : 0 < n → ∀ a, A = some a → a.block ≠ b ∧ o ≠ some a.block) :
    Calls Try.prog 29 #[.pointer (some ⟨b, 0, none⟩), .slice A n c] w fun e w' => e = .returned (.tuple #[]) ∧ WSt w b o (l ++ encTs (byt ss)) w' := by
  have hn : ss.length = n := by have := hr.len; simpa [strs] using this
  have hnb : n ≤ 100000000000000 := by omega
  go_enter Try.func29, Try.ntmps29
  go_wp2
  go_loopw [8] (fun i wr => ∃ k : Nat, k ≤ n ∧ i = .int .i64 k ∧ WSt w b o (l ++ encTs ((byt ss).take k)) wr) (fun i _ => n - (intOf i).toNat)
  case atStart => exact ⟨0, Nat.zero_le _, rfl, by simpa [encTs] using WSt.start hw⟩
  case round =>
    have Hlen := Lib.hid hlen
    obtain ⟨k, hk, rfl, hst⟩ := hrel
    by_cases hlt : k < n
    · have hk' : k < ss.length := by omega
      obtain ⟨o1, hw', ho', hch, hthen⟩ := hst.then
      obtain ⟨ab, ao, rfl, hcell⟩ := hr.cells (by omega)
      have hxc : wr.cell? ⟨ab, ao + k, none⟩ = some (.string ss[k]) := by
        refine hch.cell (hcell k _ (by simp [strs, hk'])) ?_
        have := hA (by omega) _ rfl
        simp only [List.mem_cons, Option.mem_toList, not_or]
        exact ⟨this.1, fun h => this.2 (by simpa using h)⟩
      clear hcell
      have hbk := bulk_take (byt ss) k (by simpa [byt] using hk')
      generalize hx : ss[k] = x at *
      have hsz : (byt ss)[k]'(by simpa [byt] using hk') = x.data.toList := by simp [byt, hx]
      have hxs : x.data.toList.length = x.size := rfl
      rw [hsz, hxs] at hbk
      have Hx := Lib.hid hx; clear hx
      have Hsz := Lib.hid hsz; clear hsz
      have Hxs := Lib.hid hxs; clear hxs
      have Hbk := Lib.hid hbk; clear hbk
      have hxb : x.size ≤ 140737488355328 := by have := Hbk.out; omega
      have hwa : IsWr (wr.alloc (.cells #[.int .u64 (x.size : Int)] 33)) b o1 (l ++ encTs ((byt ss).take k)) := hw'.alloc _
      have hra : Rd 1 (wr.alloc (.cells #[.int .u64 (x.size : Int)] 33)) (some ⟨wr.heap.size, 0, none⟩) 1 1 (u64s [x.size]) := rd_one _ _ _
      have hlb : (l ++ encTs ((byt ss).take k)).length + 10 * 1 + x.size ≤ 140737488355328 := text_room Hlen.out (by simpa [byt] using hn) (by omega) Hbk.out
      go_wp2_with fail
      refine (wnum b o1 _ _ 1 1 [x.size] _ hwa hra (by simp; omega) (by omega) hw'.fresh).mono ?_
      rintro e w1 ⟨rfl, hst1⟩
      obtain ⟨o2, hw2, ho2, hch2, hthen2⟩ := hst1.then
      obtain ⟨v, hb2, hown2, hv2⟩ := hw2
      have hb2c := cell_at hb2 0 rfl
      have hb2f := free_at hb2 0
      have hen : (encs [x.size]).length ≤ 10 := by have := encs_len [x.size] (by simp; omega); simpa using this
      rw [encs_one] at hen
      have hcl : (l ++ encTs ((byt ss).take k) ++ encs [x.size]).length + x.size ≤ 140737488355328 := by rw [List.length_append, encs_one]; omega
      generalize hcur : l ++ encTs ((byt ss).take k) ++ encs [x.size] = cur at *
      have Hcur := Lib.hid hcur; clear hcur
      go_wp2_with (at_builtin; refine app_str rfl (.tmp 22) (.tmp 23) 28 9 5 rfl Try.underlying28 Try.underlying9 Try.info5 v cur x rfl rfl hown2 (Nat.zero_le _) hcl ?_; intro v1 w2 h1 hg hat; obtain ⟨A1, c1, rfl⟩ := own_slice h1; have hb3 := wr_there hb2 hown2 hg; have hb3c := cell_at hb3 0 rfl; have hb3f := free_at hb3 0)
      go_roundw
      case rel =>
        refine ⟨k + 1, by omega, by go_num, ?_⟩
        have h3 := WSt.put hb2 hv2 (.inl rfl) hown2 (Ch.refl _ _) h1 hg hat (Nat.le_refl _)
        have h4 := hthen _ ((Ch.refl _ _).alloc _) _ _ (hthen2 _ (Ch.refl _ _) _ _ h3)
        have e1 : l ++ encTs ((byt ss).take (k + 1)) = cur ++ x.data.toList := by
          rw [← Hcur.out, encTs_take_succ (byt ss) k (by simpa [byt] using hk'), Hsz.out, encs_one]
          simp only [encT, List.append_assoc]
          rfl
        have e2 : (cur ++ x.data.toList).length = cur.length + x.size := by rw [List.length_append]; rfl
        rw [e2] at h4
        rw [e1]
        exact h4
      case measure => simp [intOf]; omega
    · go_wp2
      go_end0
      have e : k = n := by omega
      subst e
      rw [List.take_of_length_le (by simp [byt]; omega)] at hst
      exact ⟨rfl, hst⟩
theorem wtext (b : Nat) (o : Option Nat) (l : List UInt8) (A : Option Addr) (n c : Nat) (ss : List ByteArray) (w : World) (hw : IsWr w b o l) (hr : Rd 1 w A n c (strs ss))
    (hlen : l.length + 10 * n + bulk (byt ss) ≤ 140737488355328) (hA : ∀ a, A = some a → a.block ≠ b ∧ o ≠ some a.block) :
    Calls Try.prog 29 #[.pointer (some ⟨b, 0, none⟩), .slice A n c] w fun e w' => e = .returned (.tuple #[]) ∧ WSt w b o (l ++ encTs (byt ss)) w' := wtext0 b o l A n c ss w hw hr hlen (fun _ => hA)


def bls (l : List Bool) : List Value := l.map fun b => Value.bool b
def bnum (b : Bool) : Nat := if b then 1 else 0

set_option maxRecDepth 100000 in
set_option maxHeartbeats 800000 in
theorem wbool0 (b : Nat) (o : Option Nat) (l : List UInt8) (A : Option Addr) (n c : Nat) (bs : List Bool) (w : World) (hw : IsWr w b o l) (hr : Rd 1 w A n c (bls bs))
    (hlen : l.length + 10 * n ≤ 140737488355328) (hA : 0 < n → ∀ a, A = some a → a.block ≠ b ∧ o ≠ some a.block) :
    Calls Try.prog 30 #[.pointer (some ⟨b, 0, none⟩), .slice A n c] w fun e w' => e = .returned (.tuple #[]) ∧ WSt w b o (l ++ encs (bs.map bnum)) w' := by
  have hn : bs.length = n := by have := hr.len; simpa [bls] using this
  have hnb : n ≤ 100000000000000 := by omega
  go_enter Try.func30, Try.ntmps30
  go_wp2
  go_loopw [9] (fun i wr => ∃ k : Nat, k ≤ n ∧ i = .int .i64 k ∧ WSt w b o (l ++ encs ((bs.map bnum).take k)) wr) (fun i _ => n - (intOf i).toNat)
  case atStart => exact ⟨0, Nat.zero_le _, rfl, by simpa [encs] using WSt.start hw⟩
  case round =>
    obtain ⟨k, hk, rfl, hst⟩ := hrel
    by_cases hlt : k < n
    · have hk' : k < bs.length := by omega
      obtain ⟨o', hw', ho', hch, hthen⟩ := hst.then
      obtain ⟨ab, ao, rfl, hcell⟩ := hr.cells (by omega)
      have hxc : wr.cell? ⟨ab, ao + k, none⟩ = some (.bool bs[k]) := by
        refine hch.cell (hcell k _ (by simp [bls, hk'])) ?_
        have := hA (by omega) _ rfl
        simp only [List.mem_cons, Option.mem_toList, not_or]
        exact ⟨this.1, fun h => this.2 (by simpa using h)⟩
      clear hcell
      have hlb : (l ++ encs ((bs.map bnum).take k)).length + 10 * 1 ≤ 140737488355328 := by
        have h1 := encs_len ((bs.map bnum).take k) (fun z hz => by
          obtain ⟨q, hq, rfl⟩ := List.mem_map.1 (List.mem_of_mem_take hz)
          unfold bnum
          split <;> omega)
        simp only [List.length_take, List.length_map] at h1
        simp only [List.length_append]
        omega
      generalize hx : bs[k] = x at *
      have Hx := Lib.hid hx; clear hx
      have hwa : IsWr (wr.alloc (.cells #[.int .u64 (bnum x : Int)] 33)) b o' (l ++ encs ((bs.map bnum).take k)) := hw'.alloc _
      have hra : Rd 1 (wr.alloc (.cells #[.int .u64 (bnum x : Int)] 33)) (some ⟨wr.heap.size, 0, none⟩) 1 1 (u64s [bnum x]) := rd_one _ _ _
      cases x <;>
      · go_wp2_with fail
        refine (wnum b o' _ _ 1 1 [bnum _] _ hwa hra (by simp [bnum]) hlb hw'.fresh).mono ?_
        rintro e w' ⟨rfl, hst'⟩
        go_wp2
        go_roundw
        case rel =>
          refine ⟨k + 1, by omega, by go_num, ?_⟩
          have h2 := hthen _ ((Ch.refl _ _).alloc _) _ _ hst'
          rw [encs_take_succ (bs.map bnum) k (by simpa using hk'), ← List.append_assoc, List.getElem_map, Hx.out, ← encs_one]
          exact h2
        case measure => simp [intOf]; omega
    · go_wp2
      go_end0
      have e : k = n := by omega
      subst e
      rw [List.take_of_length_le (by simp; omega)] at hst
      exact ⟨rfl, hst⟩
theorem wbool (b : Nat) (o : Option Nat) (l : List UInt8) (A : Option Addr) (n c : Nat) (bs : List Bool) (w : World) (hw : IsWr w b o l) (hr : Rd 1 w A n c (bls bs))
    (hlen : l.length + 10 * n ≤ 140737488355328) (hA : ∀ a, A = some a → a.block ≠ b ∧ o ≠ some a.block) :
    Calls Try.prog 30 #[.pointer (some ⟨b, 0, none⟩), .slice A n c] w fun e w' => e = .returned (.tuple #[]) ∧ WSt w b o (l ++ encs (bs.map bnum)) w' := wbool0 b o l A n c bs w hw hr hlen (fun _ => hA)

/-! ### a copy of a slice of bytes -/
/-- Some slice of bytes of one's own, not before block B. -/
def OwnB (B : Nat) (l : List UInt8) (w : World) (v : Value) : Prop := ∃ A c, v = .slice A l.length c ∧ w.ownsRow B 5 1 v l.length (bvs l)

set_option maxRecDepth 100000 in
theorem clone_bytes (A : Option Addr) (n c : Nat) (l : List UInt8) (w : World) (hr : RdB w A n c l) (hn : n ≤ 140737488355328) :
    Calls Try.prog 65 #[.slice A n c] w fun e w' => ∃ v, e = .returned v ∧ OwnB w.heap.size l w' v ∧ Ch [] w w' := by
  have hl : l.length = n := hr.length
  have hq := fun W => Lib.run_eql_slice_nil (P := Try.prog) W 28 5 A n c 0 0 Try.underlying28
  rcases A with _ | ad
  · have h0 : n = 0 := by
      rcases Nat.eq_zero_or_pos n with h | h
      · exact h
      · obtain ⟨_, _, e, _⟩ := hr.cells h
        cases e
    subst h0
    go_enter Try.func65, Try.ntmps65
    go_wp2
    go_ret
    obtain rfl : l = [] := List.eq_nil_of_length_eq_zero hl
    exact ⟨_, rfl, ⟨none, 0, rfl, World.ownsRow_nil _ _ _ _⟩, Ch.refl _ _⟩
  · have hown : (w.alloc (.cells #[] 5)).ownsRow w.heap.size 5 1 (.slice (some ⟨w.heap.size, 0, none⟩) 0 0) 0 [] := by
      simpa using World.ownsRow_lit (base := w.heap.size) (e := 5) (size := 1) w #[] 0 (Nat.le_refl _) (by simp [maxLen]) rfl
    have hr2 : Rd 1 (w.alloc (.cells #[] 5)) (some ad) n c (bvs l) := hr.keep (F := []) ((Ch.refl _ _).alloc _) (by simp)
    go_enter Try.func65, Try.ntmps65
    go_wp2_with (at_builtin; refine app_rd rfl (.tmp 5) (.tmp 6) 28 5 (.int .u8 0) 1 1 (by decide) rfl Try.underlying28 Try.info5 rfl (.slice (some ⟨w.heap.size, 0, none⟩) 0 0) 0 [] (bvs l) (some ad) n c rfl rfl (bvs_one l) hown hr2 (by simp) (by omega) (by unfold maxLen; omega) ?_; intro v1 w1 h1 hg hat)
    go_ret
    have hb : w.heap.size ≤ (w.alloc (.cells #[] 5)).heap.size := by simp
    obtain ⟨A1, c1, hv⟩ := own_slice h1
    refine ⟨v1, rfl, ⟨A1, c1, by rw [hl, hv, Nat.zero_add], by simpa [hl] using h1⟩, ?_⟩
    exact ((Ch.refl [] w).alloc _).grown hg (by intro k hk; simp only [Value.ownBlock, Option.some.injEq] at hk; right; omega)

end Go.Proofs.Ytbkncfedahifkaa
