/-
  Package disk: Write.
-/
import Derived.Test.YtbkncfedahifkaaDKeys
import Derived.Test.YtbkncfedahifkaaDraw
import Derived.Deep.RegionWith
set_option linter.unusedVariables false
namespace Go.Proofs.Ytbkncfedahifkaa
open Go.RowKit Go.Maps

/-- What a write comes to. -/
def Dsk.write (d : Dsk) (i : Int) (l : List UInt8) : Dsk × Int :=
  if d.at_ i ≠ 0 then (d, d.at_ i) else if l.length ≠ d.sz then (d, 31) else if d.power.2 then (d.power.1.put i.toNat l, 0) else (d.power.1, 32)

theorem DiskAt.not_b {w : World} {b g m : Nat} {X : List Nat} {d : Dsk} {c : Nat} {vs : List Value} {D : DataW Value} (h : DiskAt w b g m X d c vs D) {A : Option Addr} {n ca : Nat} {l : List UInt8} (hr : RdB w A n ca l) (hn : 0 < n) : ∀ a, A = some a → a.block ≠ b := by
  intro a ha e
  obtain ⟨b', o, e2, hc⟩ := hr.cell hn
  rw [e2] at ha
  injection ha with ha
  subst ha
  simp only at e
  subst e
  have h0 := hc 0 (by rw [hr.length]; exact hn)
  rw [cell_of_row w b' (o + 0) _ _ _ h.cells] at h0
  rcases o with _ | _ | _ | _ | o <;> simp at h0
theorem power_keeps (d : Dsk) : d.power.1.sz = d.sz ∧ d.power.1.sure = d.sure ∧ d.power.1.dirty = d.dirty := by
  unfold Dsk.power
  split
  · exact ⟨rfl, rfl, rfl⟩
  · split <;> exact ⟨rfl, rfl, rfl⟩
theorem own_sec {w : World} {F : List Nat} {v : Value} {l : List UInt8} {base : Nat} (h : OwnB base l w v) (hF : ∀ x ∈ F, x < base) : SecV w F l.length v l := by
  obtain ⟨A, c, rfl, hown⟩ := h
  refine ⟨A, c, rfl, own_rd hown, fun a ha hf => ?_⟩
  subst ha
  have := own_ge hown a.block rfl
  have := hF _ hf
  omega

set_option maxRecDepth 100000 in
set_option maxHeartbeats 1000000 in
theorem write_any (b g m : Nat) (X : List Nat) (d : Dsk) (i : Int) (A : Option Addr) (n c : Nat) (l : List UInt8) (w : World) (h : IsDisk w b g m X d) (hX : ∀ x ∈ X, x < w.heap.size) (hr : RdB w A n c l) :
    Calls Try.prog 45 #[.pointer (some ⟨b, 0, none⟩), .int .i64 i, .slice A n c] w fun e w' => e = .returned (.int .i64 (d.write i l).2) ∧ IsDisk w' b g m X (d.write i l).1 ∧ Ch [b, m] w w' := by
  have ha := at_any b g m X d i w h
  by_cases hat : d.at_ i = 0
  · have hi0 : 0 ≤ i ∧ i < d.sure.length := by
      unfold Dsk.at_ at hat
      split at hat
      · cases hat
      · split at hat
        · cases hat
        · omega
    rw [hat] at ha
    have hs := size_any b g m X d w h
    have hnl := hr.length
    by_cases hsz : n = d.sz
    · subst hsz
      have hp := powered_any b g m X d w h
      have hpk := power_keeps d
      cases hpw : d.power.2 with
      | false =>
        have hw : d.write i l = (d.power.1, 32) := by simp [Dsk.write, hat, hnl, hpw]
        rw [hw]
        rw [hpw] at hp
        clear hw
        have hne : ((d.sz : Int) != (d.sz : Int)) = false := by simp
        go_enter Try.func45, Try.ntmps45
        go_wp2_with fail
        refine ha.mono ?_
        rintro e w1 ⟨rfl, rfl⟩
        go_wp2_with fail
        refine hs.mono ?_
        rintro e w1 ⟨rfl, rfl⟩
        go_wp2_with fail
        refine hp.mono ?_
        rintro e w1 ⟨rfl, h1, hc⟩
        simp only [errIf]
        go_wp2_with fail
        go_ret
        exact ⟨rfl, h1, hc.mono (by simp)⟩
      | true =>
        have hw : d.write i l = (d.power.1.put i.toNat l, 0) := by simp [Dsk.write, hat, hnl, hpw]
        rw [hw]
        rw [hpw] at hp
        clear hw
        have hne : ((d.sz : Int) != (d.sz : Int)) = false := by simp
        obtain ⟨cc, vs, D, hd⟩ := id h
        have hsz0 := hd.sz0
        have hsz1 := hd.sz1
        have hnb := hd.not_b hr (by omega)
        have hmlt := hd.mlt
        have hglt := hd.glt
        have hblt := hd.blt
        clear hd D vs cc
        go_enter Try.func45, Try.ntmps45
        go_wp2_with fail
        refine ha.mono ?_
        rintro e w1 ⟨rfl, rfl⟩
        go_wp2_with fail
        refine hs.mono ?_
        rintro e w1 ⟨rfl, rfl⟩
        go_wp2_with fail
        refine hp.mono ?_
        rintro e w1 ⟨rfl, h1, hc⟩
        simp only [errIf]
        have hr1 := hr.keep hc (by intro a ha' hm'; exact hnb a ha' (by simpa using hm'))
        have hs1 := hc.size
        obtain ⟨cc, vs, D, hd⟩ := h1
        have hcell := cell_at hd.cells 1 rfl
        obtain ⟨k, rfl⟩ : ∃ k : Nat, i = (k : Int) := ⟨i.toNat, by omega⟩
        have hk : k < d.power.1.sure.length := by rw [hpk.2.1]; omega
        have hk4 : k ≤ 4096 := by have := hd.n1; omega
        have hdd := hd.keep (hc := (Ch.refl X w1).drew)
        go_wp2_with fail
        refine dr_begin (by kernel_rfl) ?_
        refine dr_more (fun W => W.cell? ⟨b, 1, none⟩ = some (.map (some m))) ?_
        have hT : True ∧ w1.drew.cell? ⟨b, 1, none⟩ = some (.map (some m)) := ⟨trivial, hcell⟩
        refine dr_take 0 (some 27) (v := ?_) rfl rfl (by kernel_rfl) (by kernel_rfl) (by kernel_rfl) (fun _ _ _ h => h) rfl hT (fun W _ => ?_) ?_
        rotate_left
        · (go_simp; try with_reducible rfl)
        try simp only [Act.put, List.setIfInBounds_toArray, List.set_cons_zero, List.set_cons_succ]
        refine dr_take 1 (some 28) (v := ?_) rfl rfl (by kernel_rfl) (by kernel_rfl) (by kernel_rfl) (fun _ _ _ h => h) rfl hT (fun W _ => ?_) ?_
        rotate_left
        · (go_simp; try with_reducible rfl)
        try simp only [Act.put, List.setIfInBounds_toArray, List.set_cons_zero, List.set_cons_succ]
        refine dr_take 2 (some 29) (v := ?_) rfl rfl (by kernel_rfl) (by kernel_rfl) (by kernel_rfl) (fun _ _ _ h => h) rfl hT (fun W _ => ?_) ?_
        rotate_left
        · (go_simp; try with_reducible rfl)
        try simp only [Act.put, List.setIfInBounds_toArray, List.set_cons_zero, List.set_cons_succ]
        refine dr_take 3 (some 30) (v := ?_) rfl rfl (by kernel_rfl) (by kernel_rfl) (by kernel_rfl) (fun _ _ _ h => h) rfl hT (fun W _ => ?_) ?_
        rotate_left
        · (go_simp; try with_reducible rfl)
        try simp only [Act.put, List.setIfInBounds_toArray, List.set_cons_zero, List.set_cons_succ]
        refine dr_take 4 (some 31) (v := ?_) rfl rfl (by kernel_rfl) (by kernel_rfl) (by kernel_rfl) (fun _ _ _ h => h) rfl hT (fun W hW => ?_) ?_
        rotate_left
        · (have h1 := hW.2; go_simp; try with_reducible rfl)
        try simp only [Act.put, List.setIfInBounds_toArray, List.set_cons_zero, List.set_cons_succ]
        refine dr_take 5 (some 32) (v := ?_) rfl rfl (by kernel_rfl) (by kernel_rfl) (by kernel_rfl) (fun _ _ _ h => h) rfl hT (fun W _ => ?_) ?_
        rotate_left
        · (go_simp; try with_reducible rfl)
        try simp only [Act.put, List.setIfInBounds_toArray, List.set_cons_zero, List.set_cons_succ]
        refine dr_take 6 (some 33) (v := ?_) rfl rfl (by kernel_rfl) (by kernel_rfl) (by kernel_rfl) (fun _ _ _ h => h) rfl hT (fun W _ => ?_) ?_
        rotate_left
        · (go_simp; try with_reducible rfl)
        try simp only [Act.put, List.setIfInBounds_toArray, List.set_cons_zero, List.set_cons_succ]
        refine dr_step 7 rfl (by kernel_rfl) rfl (fun K hK => ?_)
        go_simp
        refine (clone_bytes A d.sz c l _ (hr1.keep (F := []) (Ch.refl _ _).drew (by simp)) (by omega)).mono ?_
        rintro e v1 ⟨vn, rfl, hv, hcd⟩
        have hcd : Ch [] w1 v1 := (Ch.refl _ _).drew.trans hcd (by simp)
        have hd2 := hd.keep (hcd.mono (by simp))
        have hT : True ∧ v1.cell? ⟨b, 1, none⟩ = some (.map (some m)) := ⟨trivial, cell_at hd2.cells 1 rfl⟩
        refine hK.out _ _ hT ?_
        clear hK K
        try simp only [Act.put, List.setIfInBounds_toArray, List.set_cons_zero, List.set_cons_succ]
        refine dr_step 8 rfl (by kernel_rfl) rfl (fun K hK => ?_)
        go_simp
        have hsec : SecV v1 (b :: g :: m :: X) l.length vn l := own_sec hv (by intro x hx; show x < w1.heap.size; simp only [List.mem_cons] at hx; rcases hx with e | e | e | e; omega; omega; omega; have := hX x e; omega)
        obtain ⟨v2, hrun, hown, hgr⟩ := hd2.map.update ikeyed Try.underlying65 (by have := hd2.n1; unfold maxLen; omega) (ikey_mk k hk4) (val := vn) rfl
        have hcm : Ch [m] v1 v2 := (Ch.refl _ _).grown hgr (by intro k hk; cases hk; exact .inl (by simp))
        rw [hnl, ← hpk.1] at hsec
        have hd3 := hd2.write k hk l vn (hsec.keep hcm (by simp)) hown hgr
        go_simp
        have hT : True ∧ v2.cell? ⟨b, 1, none⟩ = some (.map (some m)) := ⟨trivial, cell_at hd3.cells 1 rfl⟩
        refine hK.out _ _ hT ?_
        clear hK K
        try simp only [Act.put, List.setIfInBounds_toArray, List.set_cons_zero, List.set_cons_succ]
        refine dr_done (by kernel_rfl) ?_
        go_wp2_with fail
        go_ret
        refine ⟨rfl, ⟨cc, vs, _, hd3⟩, ?_⟩
        have hcm : Ch [m] v1 v2 := (Ch.refl _ _).grown hgr (by intro k hk; cases hk; exact .inl (by simp))
        exact ((hc.mono (by simp)).trans hcd (by simp)).trans hcm (by simp)
    · have hw : d.write i l = (d, 31) := by simp [Dsk.write, hat, hnl, hsz]
      rw [hw]
      clear hw
      have hne : ((n : Int) != (d.sz : Int)) = true := by simp; omega
      go_enter Try.func45, Try.ntmps45
      go_wp2_with fail
      refine ha.mono ?_
      rintro e w1 ⟨rfl, rfl⟩
      go_wp2_with fail
      refine hs.mono ?_
      rintro e w1 ⟨rfl, rfl⟩
      go_wp2_with fail
      go_ret
      exact ⟨rfl, h, Ch.refl _ _⟩
  · have hw : d.write i l = (d, d.at_ i) := by simp [Dsk.write, hat]
    rw [hw]
    clear hw
    have hne : (d.at_ i != 0) = true := by simpa using hat
    generalize hx : d.at_ i = x at *
    go_enter Try.func45, Try.ntmps45
    go_wp2_with fail
    refine ha.mono ?_
    rintro e w1 ⟨rfl, rfl⟩
    go_wp2_with fail
    go_ret
    exact ⟨rfl, h, Ch.refl _ _⟩

end Go.Proofs.Ytbkncfedahifkaa
