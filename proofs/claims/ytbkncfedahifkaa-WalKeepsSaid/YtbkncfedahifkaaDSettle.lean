/-
  Package disk: settle, for whatever function that is handed in.
-/
import Derived.Test.YtbkncfedahifkaaDClear
set_option linter.unusedVariables false
set_option linter.unusedSimpArgs false
namespace Go.Proofs.Ytbkncfedahifkaa
open Go.RowKit Go.Maps

/-- The first k written sectors made sure, as res tells. -/
def Dsk.settleK (d : Dsk) (res : Nat → List UInt8 → List UInt8 → List UInt8) : Nat → Dsk
  | 0 => d
  | k + 1 => (d.settleK res k).sureAt (d.idx.getD k 0) (res k ((d.settleK res k).sure.getD (d.idx.getD k 0) []) ((d.dirty (d.idx.getD k 0)).getD []))
theorem settleK_keeps (d : Dsk) (res : Nat → List UInt8 → List UInt8 → List UInt8) : ∀ k, (d.settleK res k).sz = d.sz ∧ (d.settleK res k).dirty = d.dirty ∧ (d.settleK res k).sure.length = d.sure.length ∧ (d.settleK res k).cut = d.cut ∧ (d.settleK res k).dead = d.dead
  | 0 => ⟨rfl, rfl, rfl, rfl, rfl⟩
  | k + 1 => by
    obtain ⟨h1, h2, h3, h4, h5⟩ := settleK_keeps d res k
    refine ⟨h1, h2, ?_, h4, h5⟩
    simp only [Dsk.settleK, Dsk.sureAt, List.length_set]
    exact h3

section
variable {w : World} {b g m : Nat} {X : List Nat} {d : Dsk} {c : Nat} {vs : List Value} {D : DataW Value}
theorem DiskAt.look0 (h : DiskAt w b g m X d c vs D) (i : Nat) (hi : i < d.sure.length) {v : Value} (hv : ∀ z, D.atKey (ikey i) z = .held v) : (Instr.lookup 65 (.map (some m)) (.int .i64 (i : Int)) false).run Try.prog w = .ok v w := by
  have hn := h.n1
  have hz : (zeroValue 28).run Try.prog w = .ok (.slice none 0 0) w := by simp [Try.zeroValue28]
  obtain ⟨v', ps, hrun, hat⟩ := h.map.lookup ikeyed Try.underlying65 hz rfl (ikey_mk i (by omega))
  rw [hv] at hat
  simp only [selfR, Option.some.injEq, Prod.mk.injEq, DataW.held.injEq] at hat
  obtain ⟨rfl, _⟩ := hat
  exact hrun
end

theorem rd_cell0 {w : World} {A : Option Addr} {n c : Nat} {α : Type} {f : α → Value} {l : List α} (hr : Rd 1 w A n c (l.map f)) (k : Nat) (hk : k < l.length) :
    ∃ b o, A = some ⟨b, o, none⟩ ∧ w.cell? ⟨b, o + k, none⟩ = some (f l[k]) := by
  have hn : l.length = n := by have := hr.len; simpa using this
  obtain ⟨b, o, e, hc⟩ := hr.cells (by omega)
  exact ⟨b, o, e, hc k _ (by simp [hk])⟩
set_option maxRecDepth 100000 in
set_option maxHeartbeats 2000000 in
theorem settle_any (b g m : Nat) (X : List Nat) (d : Dsk) (f : Nat) (cap : Array Value) (res : Nat → List UInt8 → List UInt8 → List UInt8) (w : World) (h : IsDisk w b g m X d)
    (hcf : ∀ args W, (callFunc f args).run Try.prog W = .ok (.enter f args) W)
    (hres : ∀ (k : Nat) (s l : Value) (l1 l2 : List UInt8) (W : World), k < 4096 → Ch [g] w W → SecV W (b :: g :: m :: X) d.sz s l1 → SecV W (b :: g :: m :: X) d.sz l l2 →
      Calls Try.prog f (#[.int .i64 (k : Int), s, l] ++ cap) W fun e w' => ∃ v, e = .returned v ∧ SecV w' (b :: g :: m :: X) d.sz v (res k l1 l2) ∧ Ch [] W w') :
    Calls Try.prog 82 #[.pointer (some ⟨b, 0, none⟩), .func (.func f) #[] cap] w fun e w' => e = .returned (.tuple #[]) ∧ IsDisk w' b g m X (d.settleK res d.idx.length).clean ∧ Ch [g, m] w w' := by
  obtain ⟨c0, vs0, D, h0⟩ := h
  have hn1 := h0.n1
  have hidx := d.idx_len
  have hsize := h0.size
  have hc1 := cell_at h0.cells 1 rfl
  have hglt := h0.glt
  have hsort := sorted_any m _ D selfR w h0.map (by rw [hsize]; unfold maxLen; omega) (by rw [hsize]; omega)
  go_enter Try.func82, Try.ntmps82
  go_wp2_with fail
  refine (keys_any _ _).mono ?_
  rintro e w1 ⟨rfl, rfl⟩
  go_wp2_with fail
  refine hsort.mono ?_
  rintro e w1 ⟨v, ss, rfl, hss, hrow, hbel⟩
  have hperm := hss.trans h0.perm.symm
  have hms : ss.mergeSort (fun x y => decide (x ≤ y)) = zs d.idx := (mergeSort_of_perm_i hperm).trans (zs_sorted d.idx_pair)
  have hsl : ss.length = d.idx.length := by have := hperm.length_eq; simpa [zs] using this
  rw [hms, hsl] at hrow
  obtain ⟨As, cs, rfl⟩ := own_slice hrow
  have hch1 : Ch [] w w1 := ((Ch.refl [] w).alloc (.cells #[.map (some m)] 65)).trans (Ch.of_below (hbel.mono (by simp)) []) (by simp)
  have hrd := own_rd hrow
  have hrg : ∀ a, As = some a → a.block ≠ g := by
    rintro a rfl
    have := own_ge hrow a.block rfl
    omega
  have h1 := h0.keep (hch1.mono (by simp))
  have HC := Lib.hid hcf
  clear hsort hss hrow hbel hperm hms hsl hc1 hcf
  go_wp2_with fail
  go_loopw [13] (fun i wr => ∃ k : Nat, k ≤ d.idx.length ∧ i = .int .i64 k ∧ Ch [g] w1 wr ∧ ∃ c vs, DiskAt wr b g m X (d.settleK res k) c vs D) (fun i _ => d.idx.length - (intOf i).toNat)
  case atStart => exact ⟨0, Nat.zero_le _, rfl, Ch.refl _ _, c0, vs0, h1⟩
  case round =>
    clear h1
    obtain ⟨k, hk, rfl, hch, c, vs, hd⟩ := hrel
    obtain ⟨wA, hwA⟩ : ∃ W, W = wr := ⟨_, rfl⟩
    subst hwA
    obtain ⟨ks, kd, kl, kc, kx⟩ := settleK_keeps d res k
    by_cases hlt : k < d.idx.length
    · have hiz : k < (zs d.idx).length := by simpa [zs] using hlt
      obtain ⟨eb, eo, rfl, he⟩ := rd_cell0 (hrd.keep hch (by intro a ha hm'; exact hrg a ha (by simpa using hm'))) k (by simpa [zs] using hlt)
      have hi := d.idx_lt d.idx[k] (List.getElem_mem hlt)
      obtain ⟨hi, lw, hlw⟩ := hi
      have hgd : d.idx.getD k 0 = d.idx[k] := by simp [List.getD, hlt]
      have hstep : d.settleK res (k + 1) = (d.settleK res k).sureAt d.idx[k] (res k ((d.settleK res k).sure.getD d.idx[k] []) lw) := by
        rw [Dsk.settleK, hgd, hlw]; rfl
      have hze : (zs d.idx)[k] = (d.idx[k] : Int) := by simp [zs]
      rw [hze] at he
      have Hstep := Lib.hid hstep
      clear hgd hstep hze hiz
      generalize hI : d.idx[k] = I at *
      have hIk : I < (d.settleK res k).sure.length := by omega
      obtain ⟨hh, vl, hvl, hsl⟩ := hd.some_ I lw hIk (by rw [kd]; exact hlw)
      obtain ⟨vv, hvv, hss⟩ := hd.sureV I hIk
      have hsc : wA.cell? ⟨g, I, none⟩ = some vv := by
        have := (own_rd hd.row).cells (by omega)
        obtain ⟨b', o', e, hc⟩ := this
        injection e with e
        injection e with e1 e2
        subst e1 e2
        have := hc I vv hvv
        rwa [Nat.zero_add] at this
      have hgetD : (d.settleK res k).sure.getD I [] = (d.settleK res k).sure[I] := by simp [List.getD, hIk]
      rw [ks] at hsl hss
      have Hgd := Lib.hid hgetD
      clear hgetD
      have hb0 := cell_at hd.cells 0 rfl
      have hb1 := cell_at hd.cells 1 rfl
      have hlk := hd.look0 I hIk hvl
      have hdr := hd.keep (Ch.refl X _).drew
      have Ks := Lib.hid ks
      clear hh hi hlw kl kd kc kx ks
      have hscd : wA.drew.cell? ⟨g, I, none⟩ = some vv := hsc
      have hfz : ∀ W, Ch [] wA W → W.frozen? ⟨g, I, none⟩ = false := fun W hW => (hd.keep (hW.mono (by simp))).row.frozenAt I
      have Hfz := Lib.hid hfz
      clear hfz
      have hk4 : k < 4096 := by omega
      go_wp2_with fail
      refine dr_begin (by kernel_rfl) ?_
      refine dr_more (fun W => W.cell? ⟨b, 0, none⟩ = some (.slice (some ⟨g, 0, none⟩) (d.settleK res k).sure.length c) ∧ W.cell? ⟨b, 1, none⟩ = some (.map (some m)) ∧ (Instr.lookup 65 (.map (some m)) (.int .i64 (I : Int)) false).run Try.prog W = .ok vl W) ?_
      have hT : True ∧ (wA.drew.cell? ⟨b, 0, none⟩ = some (.slice (some ⟨g, 0, none⟩) (d.settleK res k).sure.length c) ∧ wA.drew.cell? ⟨b, 1, none⟩ = some (.map (some m)) ∧ (Instr.lookup 65 (.map (some m)) (.int .i64 (I : Int)) false).run Try.prog wA.drew = .ok vl wA.drew) := ⟨trivial, hb0, hb1, hdr.look0 I hIk hvl⟩
      refine dr_take 0 (some 18) (v := ?_) rfl rfl (by kernel_rfl) (by kernel_rfl) (by kernel_rfl) (fun _ _ _ h => h) rfl hT (fun W _ => ?_) ?_
      rotate_left
      · (go_simp; try with_reducible rfl)
      try simp only [Act.put, List.setIfInBounds_toArray, List.set_cons_zero, List.set_cons_succ]
      refine dr_take 1 (some 19) (v := ?_) rfl rfl (by kernel_rfl) (by kernel_rfl) (by kernel_rfl) (fun _ _ _ h => h) rfl hT (fun W _ => ?_) ?_
      rotate_left
      · (go_simp; try with_reducible rfl)
      try simp only [Act.put, List.setIfInBounds_toArray, List.set_cons_zero, List.set_cons_succ]
      refine dr_take 2 (some 20) (v := ?_) rfl rfl (by kernel_rfl) (by kernel_rfl) (by kernel_rfl) (fun _ _ _ h => h) rfl hT (fun W _ => ?_) ?_
      rotate_left
      · (go_simp; try with_reducible rfl)
      try simp only [Act.put, List.setIfInBounds_toArray, List.set_cons_zero, List.set_cons_succ]
      refine dr_take 3 (some 21) (v := ?_) rfl rfl (by kernel_rfl) (by kernel_rfl) (by kernel_rfl) (fun _ _ _ h => h) rfl hT (fun W hW => ?_) ?_
      rotate_left
      · (obtain ⟨-, h1, h2, h3⟩ := hW; go_simp; try with_reducible rfl)
      try simp only [Act.put, List.setIfInBounds_toArray, List.set_cons_zero, List.set_cons_succ]
      refine dr_take 4 (some 22) (v := ?_) rfl rfl (by kernel_rfl) (by kernel_rfl) (by kernel_rfl) (fun _ _ _ h => h) rfl hT (fun W _ => ?_) ?_
      rotate_left
      · (go_simp; try with_reducible rfl)
      try simp only [Act.put, List.setIfInBounds_toArray, List.set_cons_zero, List.set_cons_succ]
      refine dr_take 5 (some 23) (v := ?_) rfl rfl (by kernel_rfl) (by kernel_rfl) (by kernel_rfl) (fun _ _ _ h => h) rfl hT (fun W _ => ?_) ?_
      rotate_left
      · (go_simp; try with_reducible rfl)
      try simp only [Act.put, List.setIfInBounds_toArray, List.set_cons_zero, List.set_cons_succ]
      refine dr_take 6 (some 24) (v := ?_) rfl rfl (by kernel_rfl) (by kernel_rfl) (by kernel_rfl) (fun _ _ _ h => h) rfl hT (fun W _ => ?_) ?_
      rotate_left
      · (go_simp; try with_reducible rfl)
      try simp only [Act.put, List.setIfInBounds_toArray, List.set_cons_zero, List.set_cons_succ]
      refine dr_take 7 (some 25) (v := ?_) rfl rfl (by kernel_rfl) (by kernel_rfl) (by kernel_rfl) (fun _ _ _ h => h) rfl hT (fun W _ => ?_) ?_
      rotate_left
      · (go_simp; try with_reducible rfl)
      try simp only [Act.put, List.setIfInBounds_toArray, List.set_cons_zero, List.set_cons_succ]
      refine dr_take 8 (some 26) (v := ?_) rfl rfl (by kernel_rfl) (by kernel_rfl) (by kernel_rfl) (fun _ _ _ h => h) rfl hT (fun W _ => ?_) ?_
      rotate_left
      · (go_simp; try with_reducible rfl)
      try simp only [Act.put, List.setIfInBounds_toArray, List.set_cons_zero, List.set_cons_succ]
      refine dr_take 9 (some 27) (v := ?_) rfl rfl (by kernel_rfl) (by kernel_rfl) (by kernel_rfl) (fun _ _ _ h => h) rfl hT (fun W _ => ?_) ?_
      rotate_left
      · (go_simp; try with_reducible rfl)
      try simp only [Act.put, List.setIfInBounds_toArray, List.set_cons_zero, List.set_cons_succ]
      refine dr_take 10 (some 28) (v := ?_) rfl rfl (by kernel_rfl) (by kernel_rfl) (by kernel_rfl) (fun _ _ _ h => h) rfl hT (fun W hW => ?_) ?_
      rotate_left
      · (obtain ⟨-, h1, h2, h3⟩ := hW; go_simp; try with_reducible rfl)
      try simp only [Act.put, List.setIfInBounds_toArray, List.set_cons_zero, List.set_cons_succ]
      refine dr_take 11 (some 29) (v := ?_) rfl rfl (by kernel_rfl) (by kernel_rfl) (by kernel_rfl) (fun _ _ _ h => h) rfl hT (fun W _ => ?_) ?_
      rotate_left
      · (go_simp; try with_reducible rfl)
      try simp only [Act.put, List.setIfInBounds_toArray, List.set_cons_zero, List.set_cons_succ]
      refine dr_take 12 (some 30) (v := ?_) rfl rfl (by kernel_rfl) (by kernel_rfl) (by kernel_rfl) (fun _ _ _ h => h) rfl hT (fun W _ => ?_) ?_
      rotate_left
      · (go_simp; try with_reducible rfl)
      try simp only [Act.put, List.setIfInBounds_toArray, List.set_cons_zero, List.set_cons_succ]
      refine dr_take 14 (some 32) (v := ?_) rfl rfl (by kernel_rfl) (by kernel_rfl) (by kernel_rfl) (fun _ _ _ h => h) rfl hT (fun W _ => ?_) ?_
      rotate_left
      · (go_simp; try with_reducible rfl)
      try simp only [Act.put, List.setIfInBounds_toArray, List.set_cons_zero, List.set_cons_succ]
      refine dr_take 15 (some 33) (v := ?_) rfl rfl (by kernel_rfl) (by kernel_rfl) (by kernel_rfl) (fun _ _ _ h => h) rfl hT (fun W _ => ?_) ?_
      rotate_left
      · (go_simp; try with_reducible rfl)
      try simp only [Act.put, List.setIfInBounds_toArray, List.set_cons_zero, List.set_cons_succ]
      refine dr_take 16 (some 34) (v := ?_) rfl rfl (by kernel_rfl) (by kernel_rfl) (by kernel_rfl) (fun _ _ _ h => h) rfl hT (fun W _ => ?_) ?_
      rotate_left
      · (go_simp; try with_reducible rfl)
      try simp only [Act.put, List.setIfInBounds_toArray, List.set_cons_zero, List.set_cons_succ]
      refine dr_take 17 (some 35) (v := ?_) rfl rfl (by kernel_rfl) (by kernel_rfl) (by kernel_rfl) (fun _ _ _ h => h) rfl hT (fun W hW => ?_) ?_
      rotate_left
      · (obtain ⟨-, h1, h2, h3⟩ := hW; go_simp; try with_reducible rfl)
      try simp only [Act.put, List.setIfInBounds_toArray, List.set_cons_zero, List.set_cons_succ]
      refine dr_take 18 (some 36) (v := ?_) rfl rfl (by kernel_rfl) (by kernel_rfl) (by kernel_rfl) (fun _ _ _ h => h) rfl hT (fun W _ => ?_) ?_
      rotate_left
      · (go_simp; try with_reducible rfl)
      try simp only [Act.put, List.setIfInBounds_toArray, List.set_cons_zero, List.set_cons_succ]
      refine dr_take 19 (some 37) (v := ?_) rfl rfl (by kernel_rfl) (by kernel_rfl) (by kernel_rfl) (fun _ _ _ h => h) rfl hT (fun W hW => ?_) ?_
      rotate_left
      · (obtain ⟨-, h1, h2, h3⟩ := hW; go_simp; try with_reducible rfl)
      try simp only [Act.put, List.setIfInBounds_toArray, List.set_cons_zero, List.set_cons_succ]
      refine dr_step 13 rfl (by kernel_rfl) rfl (fun K hK => ?_)
      go_simp
      refine hK.out _ _ hT ?_
      clear hK K
      have hcf := HC.out
      try simp only [Act.put, List.setIfInBounds_toArray, List.set_cons_zero, List.set_cons_succ]
      refine dr_step 20 rfl (by kernel_rfl) rfl (fun K hK => ?_)
      go_simp
      refine (hres k vv vl _ _ wA.drew hk4 ((hch1.mono (by simp)).trans hch (by simp)).drew (hss.keep (Ch.refl [] _).drew (by simp)) (hsl.keep (Ch.refl [] _).drew (by simp))).mono ?_
      rintro e v1 ⟨vn, rfl, ⟨An, cn, rfl, hrn, hfn⟩, hcd⟩
      have hcd : Ch [] wA v1 := (Ch.refl _ _).drew.trans hcd (by simp)
      have hd2 := hd.keep (hcd.mono (by simp))
      have hT : True ∧ (v1.cell? ⟨b, 0, none⟩ = some (.slice (some ⟨g, 0, none⟩) (d.settleK res k).sure.length c) ∧ v1.cell? ⟨b, 1, none⟩ = some (.map (some m)) ∧ (Instr.lookup 65 (.map (some m)) (.int .i64 (I : Int)) false).run Try.prog v1 = .ok vl v1) := ⟨trivial, cell_at hd2.cells 0 rfl, cell_at hd2.cells 1 rfl, hd2.look0 I hIk hvl⟩
      refine hK.out _ _ hT ?_
      clear hK K hcf
      have hf1 := Hfz.out v1 hcd
      have hs1 := hcd.cell hsc (by simp)
      try simp only [Act.put, List.setIfInBounds_toArray, List.set_cons_zero, List.set_cons_succ]
      refine dr_take 21 (some 39) (v := ?_) rfl rfl (by kernel_rfl) (by kernel_rfl) (by kernel_rfl) (fun _ _ _ h => h) rfl hT (fun W _ => ?_) ?_
      rotate_left
      · (go_simp; try with_reducible rfl)
      try simp only [Act.put, List.setIfInBounds_toArray, List.set_cons_zero, List.set_cons_succ]
      refine dr_step 22 rfl (by kernel_rfl) rfl (fun K hK => ?_)
      go_simp
      have hd3 := hd2.setSure I hIk _ (.slice An d.sz cn) (by rw [Ks.out]; exact ⟨An, cn, rfl, hrn, hfn⟩)
      have hcn : Ch [g] wA (v1.setCell ⟨g, I, none⟩ (.slice An d.sz cn)) := (hcd.mono (by simp)).setCell _ _ (by simp)
      have hlen3 : ((d.settleK res k).sureAt I (res k (d.settleK res k).sure[I] lw)).sure.length = (d.settleK res k).sure.length := by simp [Dsk.sureAt]
      have hT : True ∧ ((v1.setCell ⟨g, I, none⟩ (.slice An d.sz cn)).cell? ⟨b, 0, none⟩ = some (.slice (some ⟨g, 0, none⟩) (d.settleK res k).sure.length c) ∧ (v1.setCell ⟨g, I, none⟩ (.slice An d.sz cn)).cell? ⟨b, 1, none⟩ = some (.map (some m)) ∧ (Instr.lookup 65 (.map (some m)) (.int .i64 (I : Int)) false).run Try.prog (v1.setCell ⟨g, I, none⟩ (.slice An d.sz cn)) = .ok vl (v1.setCell ⟨g, I, none⟩ (.slice An d.sz cn))) := ⟨trivial, by have := cell_at hd3.cells 0 rfl; rw [hlen3] at this; exact this, cell_at hd3.cells 1 rfl, hd3.look0 I (by rw [hlen3]; exact hIk) hvl⟩
      refine hK.out _ _ hT ?_
      clear hK K
      try simp only [Act.put, List.setIfInBounds_toArray, List.set_cons_zero, List.set_cons_succ]
      refine dr_done (by kernel_rfl) ?_
      go_wp2_with fail
      go_roundw
      case rel => exact ⟨k + 1, by omega, by go_num, hch.trans hcn (by simp), c, _, by rw [Hstep.out, Hgd.out]; exact hd3⟩
      case measure => simp [intOf]; omega
    · obtain rfl : k = d.idx.length := by omega
      have hb1 := cell_at hd.cells 1 rfl
      obtain ⟨w3, hrun, hown, hgr⟩ := clear_run 0 hd.map
      have hd3 := hd.clear hown hgr
      clear hlt hk
      go_wp2_with fail
      go_end0
      have hcm : Ch [m] wA w3 := (Ch.refl _ _).grown hgr (by intro k hk; cases hk; exact .inl (by simp))
      exact ⟨rfl, ⟨c, vs, _, hd3⟩, ((hch1.mono (by simp)).trans hch (by simp)).trans hcm (by simp)⟩

end Go.Proofs.Ytbkncfedahifkaa
