/-
  The statements of layer 4: batch, same, size.
-/
import Derived.Test.YtbkncfedahifkaaWPlain2
import Derived.Test.YtbkncfedahifkaaDKnown
set_option linter.unusedVariables false
set_option linter.unusedSimpArgs false
namespace Go.Proofs.Ytbkncfedahifkaa
open Go.RowKit Go.Maps

/-- The k-th record of a batch. -/
def batchR (i k : Nat) (x : UInt8) : List UInt8 := (List.range x.toNat).map fun j => UInt8.ofNat (31 * i + 7 * k + j)
def batchT (i : Nat) (L : List UInt8) (k : Nat) : List (List UInt8) := (List.range k).map fun k => batchR i k (L.getD k 0)
def batchL (i : Nat) (L : List UInt8) : List (List UInt8) := batchT i L L.length
theorem batchR_length (i k : Nat) (x : UInt8) : (batchR i k x).length = x.toNat := by simp [batchR]
theorem batchT_length (i : Nat) (L : List UInt8) (k : Nat) : (batchT i L k).length = k := by simp [batchT]
theorem batchT_succ (i : Nat) (L : List UInt8) (k : Nat) : batchT i L (k + 1) = batchT i L k ++ [batchR i k (L.getD k 0)] := by simp [batchT, List.range_succ]
theorem batchT_small (i : Nat) (L : List UInt8) (k : Nat) : ∀ r ∈ batchT i L k, r.length ≤ 255 := by
  intro r hr
  simp only [batchT, List.mem_map] at hr
  obtain ⟨j, _, rfl⟩ := hr
  rw [batchR_length]
  have := (L.getD j 0).toNat_lt
  omega
/-- A row that is filled. -/
theorem fill_set (P : List UInt8) (q : Nat) (hq : q < P.length) : (P.take q ++ List.replicate (P.length - q) 0).set q (P[q]) = P.take (q + 1) ++ List.replicate (P.length - (q + 1)) 0 := by
  rw [List.set_append_right _ _ (by rw [List.length_take]; omega), List.length_take, Nat.min_eq_left (by omega), Nat.sub_self, show P.length - q = (P.length - (q + 1)) + 1 from by omega, List.replicate_succ, List.set_cons_zero, List.take_succ_eq_append_getElem hq, List.append_assoc]
  rfl
theorem fill_get (P : List UInt8) (q : Nat) (hq : q < P.length) : ((P.take q ++ List.replicate (P.length - q) 0)[q]?).map (·.toNat) = some 0 := by
  rw [List.getElem?_append_right (by rw [List.length_take]; omega), List.length_take, Nat.min_eq_left (by omega), Nat.sub_self, List.getElem?_replicate, if_pos (by omega)]
  rfl
theorem batch_byte (i k q : Nat) (x : UInt8) (hq : q < (batchR i k x).length) : ((31 * (i : Int) + 7 * (k : Int) + (q : Int)) % 256) = (((batchR i k x)[q]).toNat : Int) := by
  simp only [batchR, List.getElem_map, List.getElem_range, UInt8.toNat_ofNat']
  omega

set_option maxRecDepth 100000 in
set_option maxHeartbeats 2000000 in
theorem batch_any (i : Nat) (A : Option Addr) (n c : Nat) (L : List UInt8) (w : World) (hr : RdB w A n c L) (hi : i ≤ 1000000) (hn : n ≤ 1000) :
    Calls Try.prog 58 #[.int .i64 (i : Int), .slice A n c] w fun e w' => ∃ v, e = .returned v ∧ RowsO w' w.heap.size v (batchL i L) ∧ Ch [] w w' := by
  have hl := hr.length
  go_enter Try.func58, Try.ntmps58
  go_wp2_with fail
  go_loopw [5, 6] (fun v ki wr => ∃ k : Nat, k ≤ n ∧ ki = .int .i64 (k : Int) ∧ RowsO wr w.heap.size v (batchT i L k) ∧ Ch [] w wr) (fun _ ki _ => n - (intOf ki).toNat)
  case atStart => exact ⟨0, by omega, rfl, RowsO.empty w w.heap.size, Ch.refl _ _⟩
  case round =>
    obtain ⟨k, hk, rfl, hrows, hch⟩ := hrel
    obtain ⟨wA, hwA⟩ : ∃ W, W = wr := ⟨_, rfl⟩
    subst hwA
    have hsA := hch.size
    by_cases hlt : k < n
    · have hr2 : RdB wA A n c L := hr.keep hch (by simp)
      obtain ⟨b, o, rfl, hcell⟩ := hr2.cell_at0 k (by omega)
      have hgd : L.getD k 0 = L[k]'(by omega) := by rw [List.getD_eq_getElem?_getD, List.getElem?_eq_getElem (by omega)]; rfl
      generalize hx : L[k]'(by omega) = x at *
      have hxl := x.toNat_lt
      obtain ⟨w2, hmk, how2, hc2⟩ := make_bytes x.toNat wA (by omega)
      have hP := batchR_length i k x
      have HB := Lib.hid (batch_byte i k · x)
      have HGD := Lib.hid hgd
      clear hgd
      generalize hPe : batchR i k x = P at *
      go_wp2_with fail
      have hs2 := hc2.size
      generalize hg : wA.heap.size = g at *
      go_loopw [8] (fun qi wr => ∃ q : Nat, q ≤ x.toNat ∧ qi = .int .i64 (q : Int) ∧ wr.ownsRow g 5 1 (.slice (some ⟨g, 0, none⟩) x.toNat x.toNat) x.toNat (bvs (P.take q ++ List.replicate (P.length - q) 0)) ∧ Ch [g] w2 wr) (fun qi _ => x.toNat - (intOf qi).toNat)
      case atStart => exact ⟨0, by omega, rfl, by rw [List.take_zero, List.nil_append, Nat.sub_zero, hP]; exact how2, Ch.refl _ _⟩
      case round =>
        clear how2
        obtain ⟨q, hq, rfl, hrow, hch2⟩ := hrel
        obtain ⟨wB, hwB⟩ : ∃ W, W = wr := ⟨_, rfl⟩
        subst hwB
        by_cases hq2 : q < x.toNat
        · have c0 := row_byte hrow q 0 (fill_get P q (by omega))
          have f0 := hrow.frozenAt q
          have hB := HB.out q (by omega)
          have hset := row_set hrow q (P[q]'(by omega)) _ rfl
          rw [fill_set P q (by omega)] at hset
          have hch3 := hch2.setCell ⟨g, q, none⟩ (.int .u8 (((P[q]'(by omega)).toNat : Nat) : Int)) (by simp)
          go_wp2_with fail
          refine ⟨⟨q + 1, by omega, by go_num, hset, hch3⟩, ?_⟩
          simp [intOf]
          omega
        · obtain rfl : q = x.toNat := by omega
          clear hq2 hq
          rw [← hP, Nat.sub_self, List.take_length, List.replicate_zero, List.append_nil, hP] at hrow
          have hb2 : Ch [] wA wB := hc2.trans hch2 (by intro y hy; simp at hy; right; omega)
          have hs7 := hb2.size
          have hch7 := hch.trans hb2 (by simp)
          have hout := hrows.nil hb2
          obtain ⟨vs0, hv0, _⟩ := id hout
          obtain ⟨Ao, co, rfl⟩ := own_slice hv0
          obtain ⟨vs1, hv1, _⟩ := id hrows
          have hob : OwnB g P wB (.slice (some ⟨g, 0, none⟩) x.toNat x.toNat) := ⟨some ⟨g, 0, none⟩, x.toNat, by rw [hP], by rw [hP]; exact hrow⟩
          have hrow7 := hob.row (v := .slice Ao (batchT i L k).length co) (fun y hy => by have := own_lt hv1 y hy; omega) w.heap.size hsA
          obtain ⟨vs, hvs1, hvs2⟩ := hout
          have hvl : vs.length = (batchT i L k).length := by have := hvs1.1; simpa using this
          have hrows7 : ∀ (j : Nat) (h : j < [P].length), ∃ u, [Value.slice (some ⟨g, 0, none⟩) x.toNat x.toNat][j]? = some u ∧ RowO wB w.heap.size (.slice Ao (batchT i L k).length co) u [P][j] := by
            intro j hj
            obtain rfl : j = 0 := by simp at hj; omega
            exact ⟨_, rfl, hrow7⟩
          have HROWS := Lib.hid hrows7
          have HVS2 := Lib.hid hvs2
          have HVL := Lib.hid hvl
          have hbl := batchT_length i L k
          have HBL := Lib.hid hbl
          have HS := Lib.hid (batchT_succ i L k)
          have hsw : w.heap.size ≤ wB.heap.size := hch7.size
          have hbn : (batchT i L k).length ≤ 1000 := by omega
          clear hob hrow7 hrows7 hvs2 hvl hv0 hrows hv1 hbl
          go_wp2_with (first
            | (at_builtin; refine app_one rfl (.tmp 38) (.tmp 40) 64 28 (.slice none 0 0) 24 rfl Try.underlying64 Try.info28 rfl _ _ vs _ rfl rfl rfl hvs1 hsw (by omega) (by unfold maxLen; omega) ?_; intro v8 w8 h8 hgr8 hat8; have hc8 := hch7.grown hgr8 (fun y hy => .inr (own_ge hvs1 y hy)))
            | fail)
          have hfin := RowsO.app HVS2.out HVL.out HROWS.out h8 hgr8 hat8 hsw
          refine ⟨⟨k + 1, by omega, by go_num, by rw [HS.out, HGD.out, hPe]; exact hfin, hc8⟩, ?_⟩
          simp [intOf]
          omega
    · obtain rfl : k = n := by omega
      clear hlt hk
      go_wp2_with fail
      go_ret
      exact ⟨_, rfl, by unfold batchL; rw [hl]; exact hrows, hch⟩

end Go.Proofs.Ytbkncfedahifkaa
