/-
  Package wal: frame.
-/
import Derived.Test.YtbkncfedahifkaaWLog
import Derived.Lib.BufferWrite
set_option linter.unusedVariables false
set_option linter.unusedSimpArgs false
namespace Go.Proofs.Ytbkncfedahifkaa
open Go.RowKit Go.Maps

def signB : List UInt8 := [72, 65, 86, 69, 82, 83, 65, 75]
/-- Records' bytes. -/
def bodyB (rs : List (List UInt8)) : List UInt8 := rs.flatMap fun r => beN 4 r.length ++ r
/-- A frame. -/
def frameB (turn next : Nat) (rs : List (List UInt8)) : List UInt8 := signB ++ beN 8 turn ++ beN 8 next ++ beN 8 (bodyB rs).length ++ bodyB rs
theorem bodyB_snoc (rs : List (List UInt8)) (r : List UInt8) : bodyB (rs ++ [r]) = bodyB rs ++ (beN 4 r.length ++ r) := by simp [bodyB]
theorem bodyB_take_le (rs : List (List UInt8)) (k : Nat) : (bodyB (rs.take k)).length ≤ (bodyB rs).length := by
  have : bodyB rs = bodyB (rs.take k) ++ bodyB (rs.drop k) := by unfold bodyB; rw [← List.flatMap_append, List.take_append_drop]
  rw [this, List.length_append]
  omega

/-- A row of one's own, its block known whole. -/
theorem own_block {w : World} {base g n cap : Nat} {L : List UInt8} (h : w.ownsRow base 5 1 (.slice (some ⟨g, 0, none⟩) n cap) n (bvs L)) :
    ∃ cur : List Value, w.heap[g]? = some (.cells cur.toArray 5 (0, 0)) ∧ base ≤ g ∧ n ≤ cap ∧ cap ≤ maxLen ∧ cur.length = cap ∧ cur.take n = bvs L ∧ L.length = n := by
  have hl0 := h.1
  rcases h.2 with ⟨e, _⟩ | ⟨g', cap', cur, e, h1, h2, h3, h4, h5, h6⟩
  · cases e
  · simp only [Value.slice.injEq, Option.some.injEq, Addr.mk.injEq, and_true, true_and] at e
    obtain ⟨rfl, rfl⟩ := e
    exact ⟨cur.toList, by simpa using h2, h1, h3, h4, by rw [Array.length_toList]; omega, by simpa using h6, by simpa [bvs] using hl0⟩
theorem block_own {w : World} {base g n cap : Nat} {L : List UInt8} {cur : List Value} (h1 : w.heap[g]? = some (.cells cur.toArray 5 (0, 0))) (h2 : base ≤ g) (h3 : n ≤ cap) (h4 : cap ≤ maxLen) (h5 : cur.length = cap) (h6 : cur.take n = bvs L) (h7 : L.length = n) :
    w.ownsRow base 5 1 (.slice (some ⟨g, 0, none⟩) n cap) n (bvs L) :=
  ⟨by simp [bvs, h7], .inr ⟨g, cap, cur.toArray, rfl, h2, h1, h3, h4, by simp [h5], by simpa using h6⟩⟩

theorem own_form {w : World} {base n : Nat} {v : Value} {L : List UInt8} (h : w.ownsRow base 5 1 v n (bvs L)) (hn : 0 < n) : ∃ g cap, v = .slice (some ⟨g, 0, none⟩) n cap ∧ base ≤ g ∧ g < w.heap.size := by
  have hL : L.length = n := by have := h.1; simpa [bvs] using this
  obtain ⟨A, c, rfl⟩ := own_slice h
  subst hL
  obtain ⟨g, cap, e, h1, h2, _⟩ := OwnB.get ⟨A, c, rfl, h⟩ hn
  exact ⟨g, cap, e, h1, h2⟩
theorem copy_sign {w : World} {base g n cap : Nat} {L : List UInt8} (h : w.ownsRow base 5 1 (.slice (some ⟨g, 0, none⟩) n cap) n (bvs L)) (hn : 8 ≤ n) (ty : TypeId) :
    ∃ w', (Builtin.copy_ #[28, 9] ty #[.slice (some ⟨g, 0, none⟩) n cap, .string ⟨#[72, 65, 86, 69, 82, 83, 65, 75]⟩]).run Try.prog w = .ok (goInt 8) w' ∧
      w'.ownsRow base 5 1 (.slice (some ⟨g, 0, none⟩) n cap) n (bvs (splice L 0 signB)) ∧ Ch [g] w w' := by
  obtain ⟨cur, h1, h2, h3, h4, h5, h6, h7⟩ := own_block h
  have hi : (Try.prog.info? 5).map (·.size) = some 1 := by kernel_rfl
  have hr := Lib.run_copy_row_string (P := Try.prog) w 28 9 ty 5 g 0 n cap ⟨#[72, 65, 86, 69, 82, 83, 65, 75]⟩ cur.toArray 5 Try.underlying28 hi h1 (by simp [ByteArray.size]; omega) (by simp [ByteArray.size]; omega)
  refine ⟨_, hr, ?_, ?_⟩
  · refine block_own (setRow_heap w g _ _ 5 _ h1) h2 h3 h4 ?_ ?_ ?_
    · simp [ByteArray.size, Lib.byteCells]; omega
    · show (splice cur 0 (bvs signB)).take n = _
      rw [splice_take _ _ _ _ (by simp [bvs, signB]; omega) (by omega), h6]
      simp only [bvs, splice_map]
    · rw [splice_length _ _ _ (by simp [signB]; omega)]; exact h7
  · exact ⟨rfl, rfl, rfl, by simp [World.setRow], fun k _ hk => setRow_other w g k _ (by simpa using hk)⟩

theorem splice_mid {α : Type} (P Z Q M : List α) (h : Z.length = M.length) (o : Nat) (ho : o = P.length) : splice (P ++ (Z ++ Q)) o M = P ++ (M ++ Q) := by
  subst ho
  unfold splice
  rw [List.take_left, List.append_assoc]
  congr 2
  rw [← List.append_assoc, ← h, ← List.length_append, List.drop_left]
theorem frame_splice (turn next : Nat) (B : List UInt8) (k : Nat) : splice (splice (splice (splice (List.replicate 32 0 ++ B) 0 signB) 8 (beN 8 turn)) 16 (beN 8 next)) 24 (beN 8 k) = signB ++ beN 8 turn ++ beN 8 next ++ beN 8 k ++ B := by
  have e : List.replicate 32 (0 : UInt8) ++ B = [] ++ (List.replicate 8 0 ++ (List.replicate 8 0 ++ (List.replicate 8 0 ++ (List.replicate 8 0 ++ B)))) := by
    simp only [← List.append_assoc, List.nil_append, List.replicate_append_replicate]
  rw [e, splice_mid [] _ _ signB (by simp [signB]) 0 rfl, List.nil_append, splice_mid signB _ _ (beN 8 turn) (by simp [beN_length]) 8 rfl,
    ← List.append_assoc, splice_mid (signB ++ beN 8 turn) _ _ (beN 8 next) (by simp [beN_length]) 16 (by simp [signB, beN_length]), ← List.append_assoc,
    splice_mid (signB ++ beN 8 turn ++ beN 8 next) _ _ (beN 8 k) (by simp [beN_length]) 24 (by simp [signB, beN_length])]
  simp only [List.append_assoc]

set_option maxRecDepth 100000 in
set_option maxHeartbeats 2000000 in
theorem frame_any (turn next : Nat) (A : Option Addr) (n c : Nat) (F : List Nat) (rs : List (List UInt8)) (w : World) (h : Recs w F A n c rs) (hn : n ≤ 1000000) (ht : turn < 18446744073709551616) (hx : next < 18446744073709551616) (hb : (bodyB rs).length ≤ 1000000000000) :
    Calls Try.prog 109 #[.int .u64 (turn : Int), .int .u64 (next : Int), .slice A n c] w fun e w' => ∃ v, e = .returned v ∧ OwnB w.heap.size (frameB turn next rs) w' v ∧ Ch [] w w' := by
  have hl := h.len
  obtain ⟨w1, hmk, how, hc1⟩ := make_bytes 32 w (by omega)
  rw [show ((32 : Nat) : Int) = 32 from rfl] at hmk
  go_enter Try.func109, Try.ntmps109
  go_wp2_with fail
  clear hmk
  go_loopw [7, 14] (fun v i wr => ∃ k : Nat, k ≤ n ∧ i = .int .i64 k ∧ wr.ownsRow w.heap.size 5 1 v (32 + (bodyB (rs.take k)).length) (bvs (List.replicate 32 0 ++ bodyB (rs.take k))) ∧ Ch [] w wr) (fun _ i _ => n - (intOf i).toNat)
  case atStart => exact ⟨0, by omega, rfl, by simpa [bodyB] using how, hc1⟩
  case round =>
    clear how hc1
    obtain ⟨k, hk, rfl, ho, hch⟩ := hrel
    obtain ⟨wA, hwA⟩ : ∃ W, W = wr := ⟨_, rfl⟩
    subst hwA
    by_cases hlt : k < n
    · obtain ⟨b, o, A', n', c', rfl, hc, hrd, hrF, hn'⟩ := h.at0 k (by omega)
      have hc := hch.cell hc (by simp)
      obtain ⟨g, cap, rfl, hg1, hg2⟩ := own_form ho (by omega)
      have hsn : bodyB (rs.take (k + 1)) = bodyB (rs.take k) ++ (beN 4 n' ++ rs[k]'(by omega)) := by rw [List.take_succ_eq_append_getElem (by omega), bodyB_snoc, hn']
      have hle := bodyB_take_le rs (k + 1)
      rw [hsn] at hle
      simp only [List.length_append, beN_length] at hle
      have hcu : IntKind.u64.wrap (n' : Int) = (n' : Int) := by rw [IntKind.wrap_u64]; omega
      have hsA := hch.size
      have hl4 : (rs[k]'(by omega)).length = n' := hn'.symm
      have hp := put_any wA.heap.size 0 4 4 n' 155 [.int .u8 0, .int .u8 0, .int .u8 0, .int .u8 0] (wA.alloc (.cells #[.int .u8 0, .int .u8 0, .int .u8 0, .int .u8 0] 155)) (heap_alloc_new _ _) (by simp) (by omega) (by omega)
      have Hsn := Lib.hid hsn
      have Hl4 := Lib.hid hl4
      clear hsn hn' hl4
      generalize hr : rs[k]'(by omega) = r at *
      clear hr
      go_wp2_with fail
      refine hp.mono ?_
      rintro e w2 ⟨rfl, hb2, hc2⟩
      have hcA2 : Ch [] wA w2 := ((Ch.refl [] wA).alloc _).trans hc2 (by simp)
      have hcw2 := hch.trans hcA2 (by simp)
      have ho2 := own_keep ho hcA2 (by simp)
      have hs2 := hcA2.size
      have hrd4 : Rd 1 w2 (some ⟨wA.heap.size, 0, none⟩) 4 4 (bvs (beN 4 n')) := by
        refine ⟨by rw [bvs_length, beN_length], Nat.le_refl _, by unfold maxLen; omega, fun _ => ⟨_, 0, rfl, fun j u hu => ?_⟩⟩
        rw [Nat.zero_add]
        refine cell_at hb2 j ?_
        have hj : j < 4 := by have := (List.getElem?_eq_some_iff.1 hu).1; rw [bvs_length, beN_length] at this; exact this
        have e := splice_get [Value.int .u8 0, .int .u8 0, .int .u8 0, .int .u8 0] 0 (bvs (beN 4 n')) j (by rw [bvs_length, beN_length]; simp)
        rw [if_pos (by rw [bvs_length, beN_length]; omega), Nat.sub_zero, hu] at e
        simpa using e
      have hr1 := hrd.keep hcw2 (by simp)
      have hq := Hl4.out
      have HQ := Lib.hid hq
      clear hq hp hb2 hc2 ho
      generalize hB : bodyB (rs.take k) = B at *
      clear hB
      have hmx : 32 + B.length + 4 + n' ≤ 1000000000036 := by rw [← HQ.out]; omega
      have hge3 : ∀ k, (Value.slice (some ⟨g, 0, none⟩) (32 + B.length) cap).ownBlock = some k → w.heap.size ≤ k := by
        intro k hk
        simp only [Value.ownBlock, Option.some.injEq] at hk
        omega
      have HG := Lib.hid hge3
      clear hge3
      go_wp2_with (first
        | (at_builtin; refine app_rd rfl (.tmp 23) (.tmp 24) 28 5 (.int .u8 0) 1 1 (by decide) rfl Try.underlying28 Try.info5 rfl _ _ _ (bvs (beN 4 n')) _ 4 4 rfl rfl (bvs_one _) ho2 hrd4 (by omega) (by omega) (by unfold maxLen; omega) ?_; intro v3 w3 h3 hgr3 hat3; have hc3 := hcw2.grown hgr3 (fun k hk => .inr (HG.out k hk)); have hr3 := hrd.keep hc3 (by simp); have hs3 := hc3.size; clear ho2 hrd4 hgr3 hat3)
        | (at_builtin; refine app_rd rfl (.tmp 25) (.tmp 26) 28 5 (.int .u8 0) 1 1 (by decide) rfl Try.underlying28 Try.info5 rfl _ _ _ (bvs r) _ _ _ rfl rfl (bvs_one _) h3 hr3 hs3 (by omega) (by unfold maxLen; omega) ?_; intro v4 w4 h4 hgr4 hat4; have hc4 := hc3.grown hgr4 (fun k hk => .inr (own_ge h3 k hk)); clear hr3 hgr4 hat4)
        | fail)
      have e1 : 32 + (bodyB (rs.take (k + 1))).length = 32 + B.length + 4 + n' := by rw [Hsn.out, List.length_append, List.length_append, beN_length, HQ.out]; omega
      have e2 : bvs (List.replicate 32 0 ++ bodyB (rs.take (k + 1))) = bvs (List.replicate 32 0 ++ B) ++ bvs (beN 4 n') ++ bvs r := by rw [Hsn.out]; simp only [bvs_append, List.append_assoc]
      refine ⟨⟨k + 1, by omega, by go_num, by rw [e1, e2]; exact h4, hc4⟩, ?_⟩
      simp [intOf]
      omega
    · obtain rfl : k = n := by omega
      rw [List.take_of_length_le (by omega)] at ho
      clear hlt hk
      have hfs := frame_splice turn next (bodyB rs) (bodyB rs).length
      generalize hB : bodyB rs = B at *
      have HB := Lib.hid hB
      have HF := Lib.hid hfs
      clear hB hfs
      obtain ⟨g, cap, rfl, hg1, hg2⟩ := own_form ho (by omega)
      obtain ⟨cur, _, _, hcap1, hcap2, _⟩ := own_block ho
      unfold maxLen at hcap2
      obtain ⟨w5, hcopy, h5, hc5⟩ := copy_sign ho (by omega) 3
      have hcw5 := hch.trans hc5 (by simp; omega)
      clear ho
      go_wp2_with (first | (with_reducible refine Lib.wpList_copy_run _ rfl _ _ _ _ rfl _ _ rfl rfl hcopy ?_) | fail)
      refine (put_row g 8 8 (cap - 8) cap _ turn w.heap.size _ w5 h5 (by omega) (by omega) ht).mono ?_
      rintro e w6 ⟨rfl, h6, hc6⟩
      clear hcopy h5
      go_wp2_with fail
      refine (put_row g 16 8 (cap - 16) cap _ next w.heap.size _ w6 h6 (by omega) (by omega) hx).mono ?_
      rintro e w7 ⟨rfl, h7, hc7⟩
      clear h6
      have hcu : IntKind.u64.wrap (32 + (B.length : Int) - 32) = (B.length : Int) := by rw [IntKind.wrap_u64]; omega
      go_wp2_with fail
      refine (put_row g 24 8 (cap - 24) cap _ B.length w.heap.size _ w7 h7 (by omega) (by omega) (by omega)).mono ?_
      rintro e w8 ⟨rfl, h8, hc8⟩
      clear h7
      rw [HF.out] at h8
      have hlen : (frameB turn next rs).length = 32 + B.length := by unfold frameB; rw [HB.out]; simp [signB, beN_length]; omega
      have hfr : signB ++ beN 8 turn ++ beN 8 next ++ beN 8 B.length ++ B = frameB turn next rs := by unfold frameB; rw [HB.out]
      rw [hfr] at h8
      have HL := Lib.hid hlen
      clear hlen hfr
      go_wp2_with fail
      go_ret
      refine ⟨_, rfl, ⟨some ⟨g, 0, none⟩, cap, by rw [HL.out]; rfl, by rw [HL.out]; exact h8⟩, ?_⟩
      exact ((hcw5.trans hc6 (by simp; omega)).trans hc7 (by simp; omega)).trans hc8 (by simp; omega)

end Go.Proofs.Ytbkncfedahifkaa
