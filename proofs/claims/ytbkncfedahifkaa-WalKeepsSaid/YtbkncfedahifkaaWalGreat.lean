/-
  WalGreat.
-/
import Derived.Test.YtbkncfedahifkaaWKnown4
set_option linter.unusedVariables false
set_option linter.unusedSimpArgs false
namespace Go.Proofs.Ytbkncfedahifkaa
open Go.RowKit Go.Maps

theorem bodyB_le : ∀ (rs : List (List UInt8)) (M : Nat), (∀ r ∈ rs, r.length ≤ M) → (bodyB rs).length ≤ rs.length * (4 + M)
  | [], M, h => by simp [bodyB]
  | r :: rs, M, h => by
    have h1 := bodyB_le rs M (fun x hx => h x (by simp [hx]))
    have h2 := h r (by simp)
    rw [bodyB_cons, List.length_cons, Nat.add_mul, Nat.one_mul]
    omega
theorem commitE_fit (n sz a : Nat) (rs : List (List UInt8)) (h : ∀ r ∈ rs, r.length ≤ 255) (hf : 32 + (bodyB rs).length ≤ (n / 2 - a) * (sz - 16)) : commitE n sz a rs = 0 := by
  unfold commitE
  rw [if_neg, if_pos hf]
  intro hx
  obtain ⟨r, h1, h2⟩ := List.any_eq_true.1 hx
  have := h r h1
  simp [longB] at h2
  omega
theorem commitE_full (n sz a : Nat) (rs : List (List UInt8)) (h : ∀ r ∈ rs, r.length ≤ 1048576) (hf : (n / 2 - a) * (sz - 16) < 32 + (bodyB rs).length) : commitE n sz a rs = 40 := by
  unfold commitE
  rw [if_neg, if_neg (by omega)]
  intro hx
  obtain ⟨r, h1, h2⟩ := List.any_eq_true.1 hx
  have := h r h1
  simp [longB] at h2
  omega
theorem recs_pair {w : World} {g1 k1 c1 g2 k2 c2 : Nat} {L1 L2 : List UInt8} (h1 : RdB w (some ⟨g1, 0, none⟩) k1 c1 L1) (h2 : RdB w (some ⟨g2, 0, none⟩) k2 c2 L2) :
    Recs (w.alloc (.cells #[.slice (some ⟨g1, 0, none⟩) k1 c1, .slice (some ⟨g2, 0, none⟩) k2 c2] 28)) [] (some ⟨w.heap.size, 0, none⟩) 2 2 [L1, L2] := by
  refine recs_block (t := 28) (fr := (0, 0)) [.slice (some ⟨g1, 0, none⟩) k1 c1, .slice (some ⟨g2, 0, none⟩) k2 c2] [L1, L2] (push_last _ _ _ rfl) rfl (by simp [maxLen]) (by simp) (fun i hi => ?_)
  rcases i with _ | _ | i
  · exact ⟨_, rfl, _, _, _, rfl, h1.keep (F := []) ((Ch.refl [] w).alloc _) (by simp), by simp⟩
  · exact ⟨_, rfl, _, _, _, rfl, h2.keep (F := []) ((Ch.refl [] w).alloc _) (by simp), by simp⟩
  · simp at hi; omega
theorem body_pair (L1 L2 : List UInt8) : (bodyB [L1, L2]).length = 8 + L1.length + L2.length := by rw [bodyB_cons, bodyB_cons]; simp [bodyB]; omega
theorem body_sole (L1 : List UInt8) : (bodyB [L1]).length = 4 + L1.length := by rw [bodyB_cons]; simp [bodyB]
theorem batchL_length (i : Nat) (L : List UInt8) : (batchL i L).length = L.length := batchT_length _ _ _
theorem batchL_small (i : Nat) (L : List UInt8) : ∀ r ∈ batchL i L, r.length ≤ 255 := batchT_small _ _ _

set_option maxRecDepth 100000 in
set_option maxHeartbeats 4000000 in
theorem wal_great (a : Int) (A : Option Addr) (n c : Nat) (L : List UInt8) (w : World) (hr : RdB w A n c L) (ha0 : 0 ≤ a) (ha1 : a < 256) :
    Calls Try.prog 16 #[.int .u8 a, .slice A n c] w fun e w' => e = .returned (.bool true) ∧ Ch [] w w' := by
  have hl := hr.length
  have hcc := hr.cap
  have hcm := hr.max
  go_enter Try.func16, Try.ntmps16
  go_wp2_with fail
  refine (known4 w).mono ?_
  rintro e w1 ⟨rfl, hc1⟩
  by_cases hn : n ≤ 4
  · have hnd := newdisk_any 80 256 [] w1 (by simp) (by omega) (by omega) (by omega) (by omega)
    rw [show ((80 : Nat) : Int) = 80 from rfl, show ((256 : Nat) : Int) = 256 from rfl] at hnd
    go_wp2_with fail
    refine hnd.mono ?_
    rintro e w2 ⟨b, g, m, rfl, hb, hg, hm, hd2, hc2⟩
    clear hnd
    have ho := openlog_any w2 hd2 (by simp) (by omega) (by omega) (by omega)
    simp only [List.length_nil] at ho
    go_wp2_with fail
    refine ho.mono ?_
    rintro e w3 ⟨lb, um, A0, c0, rfl, hlb, hum, hl3, hr3, hc3⟩
    clear ho
    have hc03 := (hc1.trans hc2 (by simp)).trans hc3 (by simp)
    have hba := batch_any 1 A n c L w3 (hr.keep hc03 (by simp)) (by omega) (by omega)
    rw [show ((1 : Nat) : Int) = 1 from rfl] at hba
    have hO := hl3.out
    go_wp2_with fail
    refine hba.mono ?_
    rintro e w4 ⟨v4, rfl, hr4, hc4⟩
    clear hba
    have hbl := batchL_length 1 L
    have hbs := batchL_small 1 L
    obtain ⟨rs, hrs⟩ : ∃ rs, batchL 1 L = rs := ⟨_, rfl⟩
    rw [hrs] at hbl hbs hr4
    obtain ⟨A4, c4, rfl, hk4⟩ := hr4.recs [lb, b, g, m, um] (by simp; omega)
    have hby := bodyB_le rs 255 hbs
    have hce := commitE_fit 80 256 0 rs hbs (by omega)
    have hcm := commit_any A4 _ c4 rs w4 (hl3.nil hc4) (by simp) hk4 (by omega) (fun r hr => by have := hbs r hr; omega) (by omega) hce (by simp)
    have HBL := Lib.hid hbl
    clear hce hbl
    go_wp2_with fail
    refine hcm.mono ?_
    rintro e w5 ⟨rfl, hl5, hc5⟩
    clear hcm hk4
    have hr5 := hr4.keep hc5 (by simp; omega)
    have hv1 := Joins.run_convert_bytes_const_at w5 28 5 #[.int .u8 97] 1 1 w5.heap.size rfl Try.underlying28 Try.underlying5
    have hra : RdB (w5.alloc (.cells #[.int .u8 97] 5 (1, 2))) (some ⟨w5.heap.size, 0, none⟩) 1 1 [97] := rd_block (t := 5) (fr := (1, 2)) [97] (push_last _ _ _ rfl) (by simp [maxLen])
    have hca : Ch [] w5 (w5.alloc (.cells #[.int .u8 97] 5 (1, 2))) := (Ch.refl [] w5).alloc _
    generalize w5.alloc (.cells #[.int .u8 97] 5 (1, 2)) = wa at *
    obtain ⟨z, hz⟩ : ∃ z : Nat, (z : Int) = 1048575 + a % 4 := ⟨(1048575 + a % 4).toNat, by omega⟩
    obtain ⟨wb, hmk, howb, hcb⟩ := make_bytes z wa (by omega)
    rw [hz] at hmk
    obtain ⟨Z, hZ, hZl⟩ : ∃ Z : List UInt8, List.replicate z 0 = Z ∧ Z.length = z := ⟨_, rfl, List.length_replicate⟩
    rw [hZ] at howb
    have hrp := recs_pair (hra.keep hcb (by simp)) (own_rd howb)
    have hcc5 : Ch [] w5 (wb.alloc (.cells #[.slice (some ⟨w5.heap.size, 0, none⟩) 1 1, .slice (some ⟨wa.heap.size, 0, none⟩) z z] 28)) := (hca.trans hcb (by simp)).alloc _
    obtain ⟨wv, hwv, hce⟩ : ∃ wv : Int, wv = (if 2 ≤ a % 4 then 42 else 40) ∧ commitE 80 256 (0 + lenF 256 rs) [[97], Z] = wv := by
      refine ⟨_, rfl, ?_⟩
      split
      · exact commitE_long _ _ _ _ Z (by simp) (by omega)
      · refine commitE_full _ _ _ _ (fun r hr => ?_) (by rw [body_pair]; simp only [List.length_cons, List.length_nil]; omega)
        simp only [List.mem_cons, List.not_mem_nil, or_false] at hr
        rcases hr with rfl | rfl
        · simp
        · omega
    have hcm := commit_no _ _ _ [] [[97], Z] _ (hl5.nil hcc5) hrp (by omega) (by intro r hr; simp only [List.mem_cons, List.not_mem_nil, or_false] at hr; rcases hr with rfl | rfl; (simp); omega) (by rw [hce, hwv]; split <;> decide)
    rw [hce] at hcm
    clear hce hra
    have HWV := Lib.hid hwv
    clear hwv
    go_wp2_with fail
    refine hcm.mono ?_
    rintro e w6 ⟨rfl, hc6⟩
    have hc56 := hcc5.trans hc6 (by simp)
    clear hcm hrp hmk howb hca hcb hv1
    clear hcc5 hc6
    obtain ⟨w7, hmk, how7, hc7⟩ := make_bytes 1048577 w6 (by omega)
    rw [show ((1048577 : Nat) : Int) = 1048577 from rfl] at hmk
    obtain ⟨L7, hL7, hLl⟩ : ∃ L : List UInt8, List.replicate 1048577 0 = L ∧ L.length = 1048577 := ⟨_, rfl, List.length_replicate⟩
    rw [hL7] at how7
    have hrm := recs_made (own_rd how7) [] (by simp) (by simp)
    have hc57 : Ch [] w5 (w7.alloc (.cells #[.slice (some ⟨w6.heap.size, 0, none⟩) 1048577 1048577] 28)) := (hc56.trans hc7 (by simp)).alloc _
    have hce := commitE_long 80 256 0 [L7] L7 (by simp) (by omega)
    have hno := reset_no _ _ _ [] [L7] _ (hl5.nil hc57) hrm (by omega) (by intro r hr; simp only [List.mem_cons, List.not_mem_nil, or_false] at hr; subst hr; omega) (by rw [hce]; decide) (by omega)
    rw [hce] at hno
    clear hce
    go_wp2_with fail
    refine hno.mono ?_
    rintro e w8 ⟨rfl, hc8⟩
    have hc58 := hc57.trans hc8 (by simp)
    clear hno hrm hmk how7 hc56 hc57 hc7 hc8
    obtain ⟨w9, hmk, how9, hc9⟩ := make_bytes 20480 w8 (by omega)
    rw [show ((20480 : Nat) : Int) = 20480 from rfl] at hmk
    obtain ⟨L9, hL9, hLl9⟩ : ∃ L : List UInt8, List.replicate 20480 0 = L ∧ L.length = 20480 := ⟨_, rfl, List.length_replicate⟩
    rw [hL9] at how9
    have hrm := recs_made (own_rd how9) [] (by simp) (by simp)
    have hc59 : Ch [] w5 (w9.alloc (.cells #[.slice (some ⟨w8.heap.size, 0, none⟩) 20480 20480] 28)) := (hc58.trans hc9 (by simp)).alloc _
    have hce : commitE 80 256 (0 + lenF 256 rs) [L9] = 40 := commitE_full _ _ _ _ (by intro r hr; simp only [List.mem_cons, List.not_mem_nil, or_false] at hr; subst hr; omega) (by rw [body_sole]; omega)
    have hno := commit_no _ _ _ [] [L9] _ (hl5.nil hc59) hrm (by omega) (by intro r hr; simp only [List.mem_cons, List.not_mem_nil, or_false] at hr; subst hr; omega) (by rw [hce]; decide)
    rw [hce] at hno
    clear hce
    go_wp2_with fail
    refine hno.mono ?_
    rintro e wa0 ⟨rfl, hca⟩
    have hc5a := hc59.trans hca (by simp)
    clear hno hrm hmk how9 hc58 hc59 hc9 hca
    have hla := hl5.nil hc5a
    simp only [List.nil_append] at hla
    have hda := hla.disk
    have hOa := hla.out
    have ho := openlog_any wa0 hda (by simp; omega) (by omega) (by omega) (by omega)
    go_wp2_with fail
    refine ho.mono ?_
    rintro e wb ⟨lb2, um2, A2, c2, rfl, hlb2, hum2, hl2, hr2, hcb⟩
    clear ho
    obtain ⟨_, _, e2, hk2⟩ := hr2.recs [] (by simp)
    simp only [Value.slice.injEq, true_and] at e2
    obtain ⟨rfl, rfl⟩ := e2
    obtain ⟨_, _, e4, hk4⟩ := (hr5.nil (hc5a.trans hcb (by simp))).recs [] (by simp)
    simp only [Value.slice.injEq, true_and] at e4
    obtain ⟨rfl, rfl⟩ := e4
    have hsm := same_any A2 A4 _ _ c2 c4 [] [] rs rs wb hk2 hk4 (by have := HBL.out; omega) (by have := HBL.out; omega)
    simp only [decide_true] at hsm
    have hcF : Ch [] w wb := by
      have e1 : Ch [] w w4 := hc03.trans hc4 (by simp)
      have s1 := hc1.size
      have s2 := hc2.size
      have e2 : Ch [] w w5 := e1.trans hc5 (by intro y hy; simp at hy; omega)
      exact (e2.trans hc5a (by simp)).trans hcb (by simp)
    have hlb := hla.nil hcb
    by_cases h2 : 2 ≤ a % 4
    · obtain rfl : wv = 42 := by have := HWV.out; rw [if_pos h2] at this; exact this
      clear HWV
      go_wp2_with fail
      refine hsm.mono ?_
      rintro e wc ⟨rfl, hcc⟩
      have hct := count_any wc (hlb.nil hcc)
      go_wp2_with fail
      refine hct.mono ?_
      rintro e w' ⟨rfl, rfl⟩
      go_wp2_with fail
      go_ret
      exact ⟨rfl, hcF.trans hcc (by simp)⟩
    · obtain rfl : wv = 40 := by have := HWV.out; rw [if_neg h2] at this; exact this
      clear HWV
      go_wp2_with fail
      refine hsm.mono ?_
      rintro e wc ⟨rfl, hcc⟩
      have hct := count_any wc (hlb.nil hcc)
      go_wp2_with fail
      refine hct.mono ?_
      rintro e w' ⟨rfl, rfl⟩
      go_wp2_with fail
      go_ret
      exact ⟨rfl, hcF.trans hcc (by simp)⟩
  · go_wp2_with fail
    go_ret
    exact ⟨rfl, hc1⟩

end Go.Proofs.Ytbkncfedahifkaa
