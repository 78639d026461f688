/-
  The statements of layer 3: known.
-/
import Derived.Test.YtbkncfedahifkaaDPlain
set_option linter.unusedVariables false
set_option linter.unusedSimpArgs false
namespace Go.Proofs.Ytbkncfedahifkaa
open Go.RowKit Go.Maps

def kbytes : List UInt8 := ((List.replicate 64 (0 : UInt8)).set 0 7).set 9 7
def kdisk : Nat → Dsk
  | 0 => Dsk.new 4 64
  | k + 1 => (kdisk k).put (k + 1) kbytes
theorem kdisk_keeps : ∀ k, (kdisk k).sz = 64 ∧ (kdisk k).sure.length = 4 ∧ (kdisk k).live
  | 0 => ⟨rfl, rfl, rfl, rfl⟩
  | k + 1 => kdisk_keeps k
theorem make_64 (w : World) : ∃ w', (Instr.makeSlice 28 (.int .i64 64) (.int .i64 64)).run Try.prog w = .ok (.slice (some ⟨w.heap.size, 0, none⟩) 64 64) w' ∧ w'.ownsRow w.heap.size 5 1 (.slice (some ⟨w.heap.size, 0, none⟩) 64 64) 64 (bvs (List.replicate 64 0)) ∧ Ch [] w w' := make_bytes 64 w (by omega)
theorem row_set {w : World} {B b n c : Nat} {l : List UInt8} (h : w.ownsRow B 5 1 (.slice (some ⟨b, 0, none⟩) n c) n (bvs l)) (j : Nat) (x : UInt8) (y : Int) (hy : y = (x.toNat : Int)) :
    (w.setCell ⟨b, j, none⟩ (.int .u8 y)).ownsRow B 5 1 (.slice (some ⟨b, 0, none⟩) n c) n (bvs (l.set j x)) := by
  have := (h.stored j (.int .u8 y)).1
  subst hy
  rwa [show (bvs l).set j (.int .u8 (x.toNat : Int)) = bvs (l.set j x) from by simp [bvs, bv, List.map_set]] at this

theorem Dsk.new_4 : Dsk.new (min (max (4 : Int) 1) 4096).toNat (min (max (64 : Int) 64) 4096).toNat = kdisk 0 := rfl

set_option maxRecDepth 100000 in
set_option maxHeartbeats 2000000 in
theorem known3 (w : World) : Calls Try.prog 41 #[] w fun e w' => e = .returned (.bool true) ∧ Ch [] w w' := by
  have hn := new_any 4 64 [] w (by simp)
  rw [Dsk.new_4] at hn
  have hk0 := kdisk_keeps 0
  go_enter Try.func41, Try.ntmps41
  go_wp2_with fail
  refine hn.mono ?_
  rintro e w1 ⟨b, g, m, rfl, hb, hg, hm, hd1, hc1⟩
  clear hn
  have hs1 := sectors_any b g m [] _ w1 hd1
  have hz1 := size_any b g m [] _ w1 hd1
  rw [hk0.1] at hz1
  rw [hk0.2.1] at hs1
  obtain ⟨w2, hmk, how2, hc2⟩ := make_64 w1
  have hbl : b < w1.heap.size ∧ g < w1.heap.size ∧ m < w1.heap.size := by
    obtain ⟨c, vs, D, h⟩ := hd1
    exact ⟨h.blt, h.glt, h.mlt⟩
  have f0 := how2.frozenAt 0
  have c0 := row_byte how2 0 0 (by simp)
  have hw3 := row_set how2 0 7 7 rfl
  have f9 := hw3.frozenAt 9
  have c9 := row_byte hw3 9 0 (by simp)
  have hw4 := row_set hw3 9 7 7 rfl
  have hc4 : Ch [] w1 ((w2.setCell ⟨w1.heap.size, 0, none⟩ (.int .u8 7)).setCell ⟨w1.heap.size, 9, none⟩ (.int .u8 7)) := (hc2.setCell _ _ (.inr (Nat.le_refl _))).setCell _ _ (.inr (Nat.le_refl _))
  go_wp2_with fail
  refine hs1.mono ?_
  rintro e w' ⟨rfl, rfl⟩
  go_wp2_with fail
  refine hz1.mono ?_
  rintro e w' ⟨rfl, rfl⟩
  go_wp2_with fail
  have hd5 := (hd1.add (x := w1.heap.size) (Nat.le_refl _)).keep (hc4.mono (by simp))
  have hrd5 := own_rd hw4
  have hc5 := hc1.trans hc4 (by simp)
  have hs5 := hc4.size
  have hxx : w1.heap.size < ((w2.setCell ⟨w1.heap.size, 0, none⟩ (.int .u8 7)).setCell ⟨w1.heap.size, 9, none⟩ (.int .u8 7)).heap.size := own_lt hw4 _ rfl
  generalize hw5 : (w2.setCell ⟨w1.heap.size, 0, none⟩ (.int .u8 7)).setCell ⟨w1.heap.size, 9, none⟩ (.int .u8 7) = w5 at *
  clear hw5 hw4 c9 f9 hw3 c0 f0 hc4 how2 hmk hc2 hs1 hz1 hd1
  obtain ⟨hbx, hgx, hmx⟩ := hbl
  have hs15 := hc1.size
  generalize hX : w1.heap.size = x at *
  clear hX hk0
  have hlen : kbytes.length = 64 := rfl
  go_loopw [3] (fun i wr => ∃ k : Nat, k ≤ 3 ∧ i = .int .i64 ((k + 1 : Nat) : Int) ∧ IsDisk wr b g m [x] (kdisk k) ∧ Ch [b, g, m] w5 wr) (fun i _ => 4 - (intOf i).toNat)
  case atStart => exact ⟨0, by omega, rfl, hd5, Ch.refl _ _⟩
  case round =>
    clear hd5
    obtain ⟨k, hk, rfl, hd, hch⟩ := hrel
    obtain ⟨wA, hwA⟩ : ∃ W, W = wr := ⟨_, rfl⟩
    subst hwA
    have hsA := hch.size
    obtain ⟨kz, kl, kv⟩ := kdisk_keeps k
    by_cases hlt : k < 3
    · have hwr := write_any b g m [x] (kdisk k) ((k + 1 : Nat) : Int) (some ⟨x, 0, none⟩) 64 64 kbytes wA hd (by simp; omega) (hrd5.keep hch (by simp; omega))
      rw [live_write kv (k + 1) (by omega) kbytes (by rw [kz]; rfl)] at hwr
      go_wp2_with fail
      refine hwr.mono ?_
      rintro e w6 ⟨rfl, h6, hc6⟩
      clear hwr
      go_wp2_with fail
      go_roundw
      case rel => exact ⟨k + 1, by omega, by go_num, h6, hch.trans hc6 (by intro y hy; simp at hy ⊢; omega)⟩
      case measure => simp [intOf]; omega
    · obtain rfl : k = 3 := by omega
      clear hlt hk kz kl kv
      have hcr := crash_any b g m [x] (kdisk 3) 6 2 5 wA hd (by simp; omega) (by omega)
      rw [show ((6 : Nat) : Int) = 6 from rfl] at hcr
      have hl1 : ((kdisk 3).crash 6 2 5).at_ 1 = 0 := by decide +kernel
      have hl2 : ((kdisk 3).crash 6 2 5).at_ 2 = 0 := by decide +kernel
      have hl3 : ((kdisk 3).crash 6 2 5).at_ 3 = 0 := by decide +kernel
      have hr1 : (((kdisk 3).crash 6 2 5).read 1).length = 64 ∧ ((((kdisk 3).crash 6 2 5).read 1)[0]?).map (·.toNat) = some 0 := by decide +kernel
      have hr2 : (((kdisk 3).crash 6 2 5).read 2).length = 64 ∧ ((((kdisk 3).crash 6 2 5).read 2)[9]?).map (·.toNat) = some 7 := by decide +kernel
      have hr3 : (((kdisk 3).crash 6 2 5).read 3).length = 64 ∧ ((((kdisk 3).crash 6 2 5).read 3)[0]?).map (·.toNat) = some 7 ∧ ((((kdisk 3).crash 6 2 5).read 3)[9]?).map (·.toNat) = some 0 := by decide +kernel
      have hfl : ({ (kdisk 3).crash 6 2 5 with cut := max 0 0 } : Dsk).flush = ({ (kdisk 3).crash 6 2 5 with cut := max 0 0, dead := true }, 32) := by rfl
      generalize hkd : (kdisk 3).crash 6 2 5 = kd at *
      clear hkd
      go_wp2_with fail
      refine hcr.mono ?_
      rintro e w6 ⟨rfl, h6, hc6⟩
      clear hcr
      have hc6 := hch.trans hc6 (by simp)
      go_wp2_with fail
      refine (read_any b g m [x] kd 1 w6 h6 hl1).mono ?_
      rintro e w7 ⟨v7, rfl, ho7, hc7⟩
      obtain ⟨b7, c7, rfl, hb7, hl7, hrow7⟩ := ho7.get (by omega)
      have h7 := h6.nil hc7
      rw [hr1.1] at hrow7
      simp only [hr1.1]
      clear ho7
      go_wp2_with fail
      refine (read_any b g m [x] kd 2 w7 h7 hl2).mono ?_
      rintro e w8 ⟨v8, rfl, ho8, hc8⟩
      obtain ⟨b8, c8, rfl, hb8, hl8, hrow8⟩ := ho8.get (by omega)
      have h8 := h7.nil hc8
      rw [hr2.1] at hrow8
      simp only [hr2.1]
      clear ho8
      go_wp2_with fail
      refine (read_any b g m [x] kd 3 w8 h8 hl3).mono ?_
      rintro e w9 ⟨v9, rfl, ho9, hc9⟩
      obtain ⟨b9, c9, rfl, hb9, hl9, hrow9⟩ := ho9.get (by omega)
      have h9 := h8.nil hc9
      rw [hr3.1] at hrow9
      simp only [hr3.1]
      clear ho9
      go_wp2_with fail
      refine (cut_any b g m [x] kd 0 w9 (by omega) h9).mono ?_
      rintro e wa ⟨rfl, ha, hca⟩
      have hf := flush_any b g m [x] _ wa ha
      rw [hfl] at hf
      go_wp2_with fail
      refine hf.mono ?_
      rintro e wb ⟨rfl, hb', hcb⟩
      have hdd := dead_any b g m [x] _ wb hb'
      have s1 := hch.size
      have s6 := hc6.size
      have s7 := hc7.size
      have s8 := hc8.size
      have s9 := hc9.size
      have sa := hca.size
      have hcab : Ch [b, g, m] w9 wb := (hca.mono (by simp)).trans hcb (by simp)
      have hq7 := own_keep hrow7 (((hc8.trans hc9 (by simp)).mono (G := [b, g, m]) (by simp)).trans hcab (by simp)) (by intro k hk; simp only [Value.ownBlock, Option.some.injEq] at hk; simp; omega)
      have hq8 := own_keep hrow8 ((hc9.mono (G := [b, g, m]) (by simp)).trans hcab (by simp)) (by intro k hk; simp only [Value.ownBlock, Option.some.injEq] at hk; simp; omega)
      have hq9 := own_keep hrow9 hcab (by intro k hk; simp only [Value.ownBlock, Option.some.injEq] at hk; simp; omega)
      have p1 := row_byte hq7 0 0 hr1.2
      have p2 := row_byte hq8 9 7 hr2.2
      have p3 := row_byte hq9 0 7 hr3.2.1
      have p4 := row_byte hq9 9 0 hr3.2.2
      simp only [show ((0 : Nat) : Int) = 0 from rfl, show ((7 : Nat) : Int) = 7 from rfl] at p1 p2 p3 p4
      have hcz : Ch [] w wb := hc5.trans (((hc6.trans ((hc7.trans hc8 (by simp)).trans hc9 (by simp)) (by simp)).trans hcab (by simp)).mono (G := [b, g, m]) (by simp)) (by simp; omega)
      clear hq7 hq8 hq9 hrow7 hrow8 hrow9 hr1 hr2 hr3 hfl hl1 hl2 hl3 hf
      go_wp2_with fail
      refine hdd.mono ?_
      rintro e w' ⟨rfl, rfl⟩
      go_wp2_with fail
      go_ret
      exact ⟨rfl, hcz⟩

end Go.Proofs.Ytbkncfedahifkaa
