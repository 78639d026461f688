/-
  LatchPlays. (Written by wip/tools/gen_latchplays.py.)
-/
import Derived.Test.YtbkncfedahifkaaGreatActs25
set_option linter.unusedVariables false
set_option linter.unusedSimpArgs false
namespace Go.Proofs.YtbkncfedahifkaaGreat
open Go.RowKit Go.Maps Go.Sort Go.Shelf

/-- What the law keeps, and what the latch has. -/
structure Pl (ep : Nat) (ow : Int) (hd : Bool) (x : Option (Int × Int)) (holds owner noted : Int) : Prop where
  h1 : hd = true → 0 ≤ holds ∧ holds ≤ 2 ∧ ow = holds ∧ x = some (holds, (ep : Int))
  h2 : hd = false → holds = -1
  h3 : x = none → noted = 0
  h4 : ∀ o e, x = some (o, e) → owner = o ∧ noted = e ∧ 0 ≤ o ∧ o ≤ 2 ∧ 1 ≤ e ∧ e ≤ (ep : Int)

set_option maxRecDepth 100000 in
set_option maxHeartbeats 16000000 in
theorem latch_plays (A : Option Addr) (n c : Nat) (l : List ActL) (w : World) (hr : Rd 2 w A n c (l.flatMap ActL.cells)) (hn : l.length = n) (hq : ∀ x ∈ l, x.ok) :
    Calls Tryz.prog 9 #[.slice A n c] w fun e w' => e = .returned (.bool true) ∧ Ch [] w w' := by
  have hcc := hr.cap
  have hcm := hr.max
  have HQ := Lib.hid hq
  clear hq
  go_enter Tryz.func9, Tryz.ntmps9
  go_wp2_with fail
  refine (known25 w).mono ?_
  rintro e w0 ⟨rfl, hc0⟩
  by_cases hn40 : n ≤ 40
  case neg =>
    go_wp2_with fail
    go_ret
    exact ⟨rfl, hc0⟩
  have hz0 := hc0.size
  have hnd := new_store 800 w0 (by omega) (by omega)
  rw [show ((800 : Nat) : Int) = 800 from rfl] at hnd
  go_wp2_with fail
  refine hnd.mono ?_
  rintro e w1 ⟨b, g, m, rfl, hb, hg, hm, hd1, hc1⟩
  clear hnd
  have ho := stopen_any w1 hd1 (by simp) (by omega) (by omega) (by omega)
  go_wp2_with fail
  refine ho.mono ?_
  rintro e w2 ⟨sb, lb, um, rfl, hsb, hlb, hum, hs2, hc2⟩
  clear ho hd1
  have hcw2 := (hc0.trans hc1 (by simp)).trans hc2 (by simp)
  have hz1 := hc1.size
  have hz2 := hc2.size
  have hop := lats_open (ep := 0) (x := none) w2 hs2 epoch_empty noted_empty (by omega) (by omega) (by omega)
  go_wp2_with fail
  refine hop.mono ?_
  rintro e w3 ⟨y, a3, D3, rfl, hy, hy2, ha3, hl3, hc3⟩
  clear hop hs2
  have hcw3 : Ch [] w w3 := hcw2.trans hc3 (fun z hz => .inr (by simp only [List.mem_cons, List.not_mem_nil, or_false] at hz; omega))
  have hss : w.heap.size ≤ sb ∧ w.heap.size ≤ lb ∧ w.heap.size ≤ um ∧ w.heap.size ≤ y := by omega
  have hbg : w.heap.size ≤ b ∧ w.heap.size ≤ g ∧ w.heap.size ≤ m := by omega
  have HBG := Lib.hid hbg
  rw [show (0 + 1 : Nat) = 1 from rfl] at hl3
  clear hbg hb hg hm hsb hlb hum hc0 hc1 hc2 hc3 hz0 hz1 hz2 hy hy2 hcw2
  go_wp2_with fail
  go_loopw [4, 6, 8, 9, 10, 11, 12] (fun sv xv epv hv ov nv ki wr => ∃ (k sb lb um y a ep : Nat) (D : Mp) (ow : Int) (hd : Bool) (x : Option (Int × Int)) (holds owner noted : Int), k ≤ n ∧ sv = .pointer (some ⟨sb, 0, none⟩) ∧ xv = .pointer (some ⟨y, 0, none⟩) ∧ epv = .int .i64 (ep : Int) ∧ hv = .int .i64 holds ∧ ov = .int .i64 owner ∧ nv = .int .i64 noted ∧ ki = .int .i64 (k : Int) ∧ a ≤ 1 + k ∧ (1 ≤ ep ∧ ep ≤ 1 + k) ∧ LatS wr sb lb um b g m y 800 0 a D ep ow hd x ∧ Pl ep ow hd x holds owner noted ∧ (w.heap.size ≤ sb ∧ w.heap.size ≤ lb ∧ w.heap.size ≤ um ∧ w.heap.size ≤ y) ∧ Ch [] w wr) (fun _ _ _ _ _ _ ki _ => n - (intOf ki).toNat)
  case atStart => exact ⟨0, sb, lb, um, y, a3, 1, D3, 0, false, none, -1, -1, 0, by omega, rfl, rfl, rfl, rfl, rfl, rfl, rfl, by omega, by omega, hl3, ⟨by simp, fun _ => rfl, fun _ => rfl, by simp⟩, hss, hcw3⟩
  case round =>
    clear hl3 hss hcw3
    obtain ⟨k, sb, lb, um, y, a, ep, D, ow, hd, x, holds, owner, noted, hk, rfl, rfl, rfl, rfl, rfl, rfl, rfl, hak, hepk, hlA, hpl, hss, hch⟩ := hrel
    obtain ⟨wA, hwA⟩ : ∃ W, W = wr := ⟨_, rfl⟩
    subst hwA
    by_cases hlt : k < n
    · obtain ⟨pb, po, rfl, q0, q1⟩ := acts25_cells (hr.keep hch (by simp)) k (by omega) hn
      have hxk := HQ.out _ (List.getElem_mem (l := l) (n := k) (by omega))
      generalize l[k]'(by omega) = z at *
      obtain ⟨zw, zo⟩ := z
      obtain ⟨hzw, hzo⟩ := hxk
      simp only at q0 q1 hzw hzo
      have hsw : w.heap.size ≤ b ∧ w.heap.size ≤ g ∧ w.heap.size ≤ m ∧ w.heap.size ≤ sb ∧ w.heap.size ≤ lb ∧ w.heap.size ≤ um ∧ w.heap.size ≤ y := by have := HBG.out; omega
      have HSW := Lib.hid hsw
      clear hsw
      obtain ⟨o, ho⟩ : ∃ o : Nat, (zo : Int) % 3 = (o : Int) := ⟨zo % 3, by omega⟩
      have ho3 : o ≤ 2 := by omega
      have h7 : (zw : Int) % 7 = 0 ∨ (zw : Int) % 7 = 1 ∨ (zw : Int) % 7 = 2 ∨ (zw : Int) % 7 = 3 ∨ (zw : Int) % 7 = 4 ∨ (zw : Int) % 7 = 5 ∨ (zw : Int) % 7 = 6 := by omega
      rcases h7 with h7 | h7 | h7 | h7 | h7 | h7 | h7
      · skip
        rcases hd with _ | _
        · have hho : holds = -1 := hpl.h2 rfl
          subst hho
          have htr := lats_yes (o : Int) wA hlA (by simp) (fun o' e' he => by have := hpl.h4 o' e' he; omega) (by omega) (by omega) (by omega) (by omega)
          go_wp2_with fail
          refine htr.mono ?_
          rintro e wB ⟨rfl, aB, DB, haB, hlB, hcB0⟩
          clear htr hlA
          have hcB : Ch [] w wB := hch.trans hcB0 (fun z hz => .inr (by simp only [List.mem_cons, List.not_mem_nil, or_false] at hz; have := HSW.out; omega))
          go_wp2_with fail
          have hwho := lats_who (o : Int) (ep : Int) wB hlB (by omega) (by omega)
          go_wp2_with fail
          refine hwho.mono ?_
          rintro e wY ⟨rfl, hcY⟩
          clear hwho
          have hlY := hlB.nil hcY
          have hcwY := hcB.trans hcY (by simp)
          have hepo := lepoch_any _ _ _ _ wY hlY.lt
          go_wp2_with fail
          refine hepo.mono ?_
          rintro e wZ ⟨rfl, rfl⟩
          clear hepo
          go_wp2_with fail
          refine ⟨⟨k + 1, sb, lb, um, y, _, ep, _, (o : Int), true, (some ((o : Int), (ep : Int))), (o : Int), (o : Int), (ep : Int), by omega, rfl, rfl, by go_num, rfl, rfl, rfl, by go_num, by omega, by omega, hlY, ⟨fun _ => ⟨by omega, by omega, rfl, rfl⟩, by simp, by simp, fun o' e' he => by injection he with he; injection he with h1 h2; subst h1 h2; exact ⟨rfl, rfl, by omega, by omega, by omega, by omega⟩⟩, hss, hcwY⟩, ?_⟩
          simp [intOf]
          omega
        · obtain ⟨hh1, hh2, hh3, hh4⟩ := hpl.h1 rfl
          subst hh3 hh4
          obtain ⟨hx1, hx2, hx3, hx4, hx5, hx6⟩ := hpl.h4 _ _ rfl
          subst hx1 hx2
          have htr := lats_no (o : Int) wA hlA (by omega) (by omega)
          go_wp2_with fail
          refine htr.mono ?_
          rintro e wB ⟨rfl, hcB0⟩
          clear htr
          have hlB := hlA.nil hcB0
          have hcB := hch.trans hcB0 (by simp)
          go_wp2_with fail
          have hwho := lats_who owner (ep : Int) wB hlB (by omega) (by omega)
          go_wp2_with fail
          refine hwho.mono ?_
          rintro e wY ⟨rfl, hcY⟩
          clear hwho
          have hlY := hlB.nil hcY
          have hcwY := hcB.trans hcY (by simp)
          have hepo := lepoch_any _ _ _ _ wY hlY.lt
          go_wp2_with fail
          refine hepo.mono ?_
          rintro e wZ ⟨rfl, rfl⟩
          clear hepo
          go_wp2_with fail
          refine ⟨⟨k + 1, sb, lb, um, y, _, ep, _, _, true, _, _, _, _, by omega, rfl, rfl, by go_num, rfl, rfl, rfl, by go_num, by omega, by omega, hlY, hpl, hss, hcwY⟩, ?_⟩
          simp [intOf]
          omega
      · skip
        rcases hd with _ | _
        · have hho : holds = -1 := hpl.h2 rfl
          subst hho
          have htr := lats_yes (o : Int) wA hlA (by simp) (fun o' e' he => by have := hpl.h4 o' e' he; omega) (by omega) (by omega) (by omega) (by omega)
          go_wp2_with fail
          refine htr.mono ?_
          rintro e wB ⟨rfl, aB, DB, haB, hlB, hcB0⟩
          clear htr hlA
          have hcB : Ch [] w wB := hch.trans hcB0 (fun z hz => .inr (by simp only [List.mem_cons, List.not_mem_nil, or_false] at hz; have := HSW.out; omega))
          go_wp2_with fail
          have hwho := lats_who (o : Int) (ep : Int) wB hlB (by omega) (by omega)
          go_wp2_with fail
          refine hwho.mono ?_
          rintro e wY ⟨rfl, hcY⟩
          clear hwho
          have hlY := hlB.nil hcY
          have hcwY := hcB.trans hcY (by simp)
          have hepo := lepoch_any _ _ _ _ wY hlY.lt
          go_wp2_with fail
          refine hepo.mono ?_
          rintro e wZ ⟨rfl, rfl⟩
          clear hepo
          go_wp2_with fail
          refine ⟨⟨k + 1, sb, lb, um, y, _, ep, _, (o : Int), true, (some ((o : Int), (ep : Int))), (o : Int), (o : Int), (ep : Int), by omega, rfl, rfl, by go_num, rfl, rfl, rfl, by go_num, by omega, by omega, hlY, ⟨fun _ => ⟨by omega, by omega, rfl, rfl⟩, by simp, by simp, fun o' e' he => by injection he with he; injection he with h1 h2; subst h1 h2; exact ⟨rfl, rfl, by omega, by omega, by omega, by omega⟩⟩, hss, hcwY⟩, ?_⟩
          simp [intOf]
          omega
        · obtain ⟨hh1, hh2, hh3, hh4⟩ := hpl.h1 rfl
          subst hh3 hh4
          obtain ⟨hx1, hx2, hx3, hx4, hx5, hx6⟩ := hpl.h4 _ _ rfl
          subst hx1 hx2
          have htr := lats_no (o : Int) wA hlA (by omega) (by omega)
          go_wp2_with fail
          refine htr.mono ?_
          rintro e wB ⟨rfl, hcB0⟩
          clear htr
          have hlB := hlA.nil hcB0
          have hcB := hch.trans hcB0 (by simp)
          go_wp2_with fail
          have hwho := lats_who owner (ep : Int) wB hlB (by omega) (by omega)
          go_wp2_with fail
          refine hwho.mono ?_
          rintro e wY ⟨rfl, hcY⟩
          clear hwho
          have hlY := hlB.nil hcY
          have hcwY := hcB.trans hcY (by simp)
          have hepo := lepoch_any _ _ _ _ wY hlY.lt
          go_wp2_with fail
          refine hepo.mono ?_
          rintro e wZ ⟨rfl, rfl⟩
          clear hepo
          go_wp2_with fail
          refine ⟨⟨k + 1, sb, lb, um, y, _, ep, _, _, true, _, _, _, _, by omega, rfl, rfl, by go_num, rfl, rfl, rfl, by go_num, by omega, by omega, hlY, hpl, hss, hcwY⟩, ?_⟩
          simp [intOf]
          omega
      · skip
        rcases hd with _ | _
        · have hho : holds = -1 := hpl.h2 rfl
          subst hho
          have htr := lats_yes (o : Int) wA hlA (by simp) (fun o' e' he => by have := hpl.h4 o' e' he; omega) (by omega) (by omega) (by omega) (by omega)
          go_wp2_with fail
          refine htr.mono ?_
          rintro e wB ⟨rfl, aB, DB, haB, hlB, hcB0⟩
          clear htr hlA
          have hcB : Ch [] w wB := hch.trans hcB0 (fun z hz => .inr (by simp only [List.mem_cons, List.not_mem_nil, or_false] at hz; have := HSW.out; omega))
          go_wp2_with fail
          have hwho := lats_who (o : Int) (ep : Int) wB hlB (by omega) (by omega)
          go_wp2_with fail
          refine hwho.mono ?_
          rintro e wY ⟨rfl, hcY⟩
          clear hwho
          have hlY := hlB.nil hcY
          have hcwY := hcB.trans hcY (by simp)
          have hepo := lepoch_any _ _ _ _ wY hlY.lt
          go_wp2_with fail
          refine hepo.mono ?_
          rintro e wZ ⟨rfl, rfl⟩
          clear hepo
          go_wp2_with fail
          refine ⟨⟨k + 1, sb, lb, um, y, _, ep, _, (o : Int), true, (some ((o : Int), (ep : Int))), (o : Int), (o : Int), (ep : Int), by omega, rfl, rfl, by go_num, rfl, rfl, rfl, by go_num, by omega, by omega, hlY, ⟨fun _ => ⟨by omega, by omega, rfl, rfl⟩, by simp, by simp, fun o' e' he => by injection he with he; injection he with h1 h2; subst h1 h2; exact ⟨rfl, rfl, by omega, by omega, by omega, by omega⟩⟩, hss, hcwY⟩, ?_⟩
          simp [intOf]
          omega
        · obtain ⟨hh1, hh2, hh3, hh4⟩ := hpl.h1 rfl
          subst hh3 hh4
          obtain ⟨hx1, hx2, hx3, hx4, hx5, hx6⟩ := hpl.h4 _ _ rfl
          subst hx1 hx2
          have htr := lats_no (o : Int) wA hlA (by omega) (by omega)
          go_wp2_with fail
          refine htr.mono ?_
          rintro e wB ⟨rfl, hcB0⟩
          clear htr
          have hlB := hlA.nil hcB0
          have hcB := hch.trans hcB0 (by simp)
          go_wp2_with fail
          have hwho := lats_who owner (ep : Int) wB hlB (by omega) (by omega)
          go_wp2_with fail
          refine hwho.mono ?_
          rintro e wY ⟨rfl, hcY⟩
          clear hwho
          have hlY := hlB.nil hcY
          have hcwY := hcB.trans hcY (by simp)
          have hepo := lepoch_any _ _ _ _ wY hlY.lt
          go_wp2_with fail
          refine hepo.mono ?_
          rintro e wZ ⟨rfl, rfl⟩
          clear hepo
          go_wp2_with fail
          refine ⟨⟨k + 1, sb, lb, um, y, _, ep, _, _, true, _, _, _, _, by omega, rfl, rfl, by go_num, rfl, rfl, rfl, by go_num, by omega, by omega, hlY, hpl, hss, hcwY⟩, ?_⟩
          simp [intOf]
          omega
      · skip
        have hlv := lats_leave (o : Int) wA hlA
        go_wp2_with fail
        refine hlv.mono ?_
        rintro e wB ⟨rfl, hlB, hcB0⟩
        clear hlv hlA
        have hcB : Ch [] w wB := hch.trans hcB0 (fun z hz => .inr (by simp only [List.mem_singleton] at hz; have := HSW.out; omega))
        rcases hd with _ | _
        · have hho : holds = -1 := hpl.h2 rfl
          subst hho
          rw [Bool.false_and] at hlB
          have hno : ¬ (-1 : Int) = (o : Int) := by omega
          go_wp2_with fail
          rcases x with _ | ⟨o0, e0⟩
          · obtain rfl : noted = 0 := hpl.h3 rfl
            have hwho := lats_none wB hlB
            go_wp2_with fail
            refine hwho.mono ?_
            rintro e wY ⟨rfl, hcY⟩
            clear hwho
            have hlY := hlB.nil hcY
            have hcwY := hcB.trans hcY (by simp)
            have hepo := lepoch_any _ _ _ _ wY hlY.lt
            go_wp2_with fail
            refine hepo.mono ?_
            rintro e wZ ⟨rfl, rfl⟩
            clear hepo
            go_wp2_with fail
            refine ⟨⟨k + 1, sb, lb, um, y, _, ep, _, _, false, none, (-1), owner, 0, by omega, rfl, rfl, by go_num, rfl, rfl, rfl, by go_num, by omega, by omega, hlY, hpl, hss, hcwY⟩, ?_⟩
            simp [intOf]
            omega
          · obtain ⟨hx1, hx2, hx3, hx4, hx5, hx6⟩ := hpl.h4 o0 e0 rfl
            subst hx1 hx2
            have hwho := lats_who owner noted wB hlB (by omega) (by omega)
            go_wp2_with fail
            refine hwho.mono ?_
            rintro e wY ⟨rfl, hcY⟩
            clear hwho
            have hlY := hlB.nil hcY
            have hcwY := hcB.trans hcY (by simp)
            have hepo := lepoch_any _ _ _ _ wY hlY.lt
            go_wp2_with fail
            refine hepo.mono ?_
            rintro e wZ ⟨rfl, rfl⟩
            clear hepo
            go_wp2_with fail
            refine ⟨⟨k + 1, sb, lb, um, y, _, ep, _, _, false, (some (owner, noted)), (-1), owner, noted, by omega, rfl, rfl, by go_num, rfl, rfl, rfl, by go_num, by omega, by omega, hlY, hpl, hss, hcwY⟩, ?_⟩
            simp [intOf]
            omega
        · obtain ⟨hh1, hh2, hh3, hh4⟩ := hpl.h1 rfl
          subst hh3 hh4
          obtain ⟨hx1, hx2, hx3, hx4, hx5, hx6⟩ := hpl.h4 _ _ rfl
          subst hx1 hx2
          rw [Bool.true_and] at hlB
          by_cases hoo : owner = (o : Int)
          · subst hoo
            rw [show (!decide ((o : Int) = (o : Int))) = false by simp] at hlB
            go_wp2_with fail
            have hwho := lats_who (o : Int) (ep : Int) wB hlB (by omega) (by omega)
            go_wp2_with fail
            refine hwho.mono ?_
            rintro e wY ⟨rfl, hcY⟩
            clear hwho
            have hlY := hlB.nil hcY
            have hcwY := hcB.trans hcY (by simp)
            have hepo := lepoch_any _ _ _ _ wY hlY.lt
            go_wp2_with fail
            refine hepo.mono ?_
            rintro e wZ ⟨rfl, rfl⟩
            clear hepo
            go_wp2_with fail
            refine ⟨⟨k + 1, sb, lb, um, y, _, ep, _, _, false, _, (-1), _, _, by omega, rfl, rfl, by go_num, rfl, rfl, rfl, by go_num, by omega, by omega, hlY, ⟨by simp, fun _ => rfl, hpl.h3, hpl.h4⟩, hss, hcwY⟩, ?_⟩
            simp [intOf]
            omega
          · rw [show (!decide (owner = (o : Int))) = true by simp [hoo]] at hlB
            go_wp2_with fail
            have hwho := lats_who owner (ep : Int) wB hlB (by omega) (by omega)
            go_wp2_with fail
            refine hwho.mono ?_
            rintro e wY ⟨rfl, hcY⟩
            clear hwho
            have hlY := hlB.nil hcY
            have hcwY := hcB.trans hcY (by simp)
            have hepo := lepoch_any _ _ _ _ wY hlY.lt
            go_wp2_with fail
            refine hepo.mono ?_
            rintro e wZ ⟨rfl, rfl⟩
            clear hepo
            go_wp2_with fail
            refine ⟨⟨k + 1, sb, lb, um, y, _, ep, _, _, true, _, _, _, _, by omega, rfl, rfl, by go_num, rfl, rfl, rfl, by go_num, by omega, by omega, hlY, hpl, hss, hcwY⟩, ?_⟩
            simp [intOf]
            omega
      · skip
        have hlv := lats_leave (o : Int) wA hlA
        go_wp2_with fail
        refine hlv.mono ?_
        rintro e wB ⟨rfl, hlB, hcB0⟩
        clear hlv hlA
        have hcB : Ch [] w wB := hch.trans hcB0 (fun z hz => .inr (by simp only [List.mem_singleton] at hz; have := HSW.out; omega))
        rcases hd with _ | _
        · have hho : holds = -1 := hpl.h2 rfl
          subst hho
          rw [Bool.false_and] at hlB
          have hno : ¬ (-1 : Int) = (o : Int) := by omega
          go_wp2_with fail
          rcases x with _ | ⟨o0, e0⟩
          · obtain rfl : noted = 0 := hpl.h3 rfl
            have hwho := lats_none wB hlB
            go_wp2_with fail
            refine hwho.mono ?_
            rintro e wY ⟨rfl, hcY⟩
            clear hwho
            have hlY := hlB.nil hcY
            have hcwY := hcB.trans hcY (by simp)
            have hepo := lepoch_any _ _ _ _ wY hlY.lt
            go_wp2_with fail
            refine hepo.mono ?_
            rintro e wZ ⟨rfl, rfl⟩
            clear hepo
            go_wp2_with fail
            refine ⟨⟨k + 1, sb, lb, um, y, _, ep, _, _, false, none, (-1), owner, 0, by omega, rfl, rfl, by go_num, rfl, rfl, rfl, by go_num, by omega, by omega, hlY, hpl, hss, hcwY⟩, ?_⟩
            simp [intOf]
            omega
          · obtain ⟨hx1, hx2, hx3, hx4, hx5, hx6⟩ := hpl.h4 o0 e0 rfl
            subst hx1 hx2
            have hwho := lats_who owner noted wB hlB (by omega) (by omega)
            go_wp2_with fail
            refine hwho.mono ?_
            rintro e wY ⟨rfl, hcY⟩
            clear hwho
            have hlY := hlB.nil hcY
            have hcwY := hcB.trans hcY (by simp)
            have hepo := lepoch_any _ _ _ _ wY hlY.lt
            go_wp2_with fail
            refine hepo.mono ?_
            rintro e wZ ⟨rfl, rfl⟩
            clear hepo
            go_wp2_with fail
            refine ⟨⟨k + 1, sb, lb, um, y, _, ep, _, _, false, (some (owner, noted)), (-1), owner, noted, by omega, rfl, rfl, by go_num, rfl, rfl, rfl, by go_num, by omega, by omega, hlY, hpl, hss, hcwY⟩, ?_⟩
            simp [intOf]
            omega
        · obtain ⟨hh1, hh2, hh3, hh4⟩ := hpl.h1 rfl
          subst hh3 hh4
          obtain ⟨hx1, hx2, hx3, hx4, hx5, hx6⟩ := hpl.h4 _ _ rfl
          subst hx1 hx2
          rw [Bool.true_and] at hlB
          by_cases hoo : owner = (o : Int)
          · subst hoo
            rw [show (!decide ((o : Int) = (o : Int))) = false by simp] at hlB
            go_wp2_with fail
            have hwho := lats_who (o : Int) (ep : Int) wB hlB (by omega) (by omega)
            go_wp2_with fail
            refine hwho.mono ?_
            rintro e wY ⟨rfl, hcY⟩
            clear hwho
            have hlY := hlB.nil hcY
            have hcwY := hcB.trans hcY (by simp)
            have hepo := lepoch_any _ _ _ _ wY hlY.lt
            go_wp2_with fail
            refine hepo.mono ?_
            rintro e wZ ⟨rfl, rfl⟩
            clear hepo
            go_wp2_with fail
            refine ⟨⟨k + 1, sb, lb, um, y, _, ep, _, _, false, _, (-1), _, _, by omega, rfl, rfl, by go_num, rfl, rfl, rfl, by go_num, by omega, by omega, hlY, ⟨by simp, fun _ => rfl, hpl.h3, hpl.h4⟩, hss, hcwY⟩, ?_⟩
            simp [intOf]
            omega
          · rw [show (!decide (owner = (o : Int))) = true by simp [hoo]] at hlB
            go_wp2_with fail
            have hwho := lats_who owner (ep : Int) wB hlB (by omega) (by omega)
            go_wp2_with fail
            refine hwho.mono ?_
            rintro e wY ⟨rfl, hcY⟩
            clear hwho
            have hlY := hlB.nil hcY
            have hcwY := hcB.trans hcY (by simp)
            have hepo := lepoch_any _ _ _ _ wY hlY.lt
            go_wp2_with fail
            refine hepo.mono ?_
            rintro e wZ ⟨rfl, rfl⟩
            clear hepo
            go_wp2_with fail
            refine ⟨⟨k + 1, sb, lb, um, y, _, ep, _, _, true, _, _, _, _, by omega, rfl, rfl, by go_num, rfl, rfl, rfl, by go_num, by omega, by omega, hlY, hpl, hss, hcwY⟩, ?_⟩
            simp [intOf]
            omega
      · skip
        have hOA := hlA.st.out
        have hyl := hlA.ylt
        have ho := stopen_any wA hlA.st.disk (by simp; omega) (by omega) (by omega) (by omega)
        go_wp2_with fail
        refine ho.mono ?_
        rintro e wB ⟨sb2, lb2, um2, rfl, hsb2, hlb2, hum2, hsB, hcB0⟩
        clear ho
        have hsB2 := hsB.sub (Y := []) (by simp)
        have hcB := hch.trans hcB0 (by simp)
        have hop := lats_open wB hsB2 hlA.ep hlA.no (by omega) (by omega) (by omega)
        have hzA := hch.size
        have hzB := hcB.size
        clear hsB hlA
        go_wp2_with fail
        refine hop.mono ?_
        rintro e wC ⟨y2, aC, DC, rfl, hy2, hy3, haC, hlC, hcC0⟩
        clear hop
        have hcC : Ch [] w wC := hcB.trans hcC0 (fun z hz => .inr (by simp only [List.mem_cons, List.not_mem_nil, or_false] at hz; have := HSW.out; omega))
        have hss2 : w.heap.size ≤ sb2 ∧ w.heap.size ≤ lb2 ∧ w.heap.size ≤ um2 ∧ w.heap.size ≤ y2 := by omega
        have hpl2 : Pl (ep + 1) 0 false x (-1) owner noted := ⟨by simp, fun _ => rfl, hpl.h3, fun o' e' he => by obtain ⟨h1, h2, h3, h4, h5, h6⟩ := hpl.h4 o' e' he; exact ⟨h1, h2, h3, h4, h5, by omega⟩⟩
        clear hss HSW
        replace hpl := hpl2
        clear hpl2
        go_wp2_with fail
        rcases x with _ | ⟨o0, e0⟩
        · obtain rfl : noted = 0 := hpl.h3 rfl
          have hwho := lats_none wC hlC
          go_wp2_with fail
          refine hwho.mono ?_
          rintro e wY ⟨rfl, hcY⟩
          clear hwho
          have hlY := hlC.nil hcY
          have hcwY := hcC.trans hcY (by simp)
          have hepo := lepoch_any _ _ _ _ wY hlY.lt
          go_wp2_with fail
          refine hepo.mono ?_
          rintro e wZ ⟨rfl, rfl⟩
          clear hepo
          go_wp2_with fail
          refine ⟨⟨k + 1, sb2, lb2, um2, y2, _, (ep + 1), _, _, false, none, (-1), owner, 0, by omega, rfl, rfl, by go_num, rfl, rfl, rfl, by go_num, by omega, by omega, hlY, hpl, hss2, hcwY⟩, ?_⟩
          simp [intOf]
          omega
        · obtain ⟨hx1, hx2, hx3, hx4, hx5, hx6⟩ := hpl.h4 o0 e0 rfl
          subst hx1 hx2
          have hwho := lats_who owner noted wC hlC (by omega) (by omega)
          go_wp2_with fail
          refine hwho.mono ?_
          rintro e wY ⟨rfl, hcY⟩
          clear hwho
          have hlY := hlC.nil hcY
          have hcwY := hcC.trans hcY (by simp)
          have hepo := lepoch_any _ _ _ _ wY hlY.lt
          go_wp2_with fail
          refine hepo.mono ?_
          rintro e wZ ⟨rfl, rfl⟩
          clear hepo
          go_wp2_with fail
          refine ⟨⟨k + 1, sb2, lb2, um2, y2, _, (ep + 1), _, _, false, (some (owner, noted)), (-1), owner, noted, by omega, rfl, rfl, by go_num, rfl, rfl, rfl, by go_num, by omega, by omega, hlY, hpl, hss2, hcwY⟩, ?_⟩
          simp [intOf]
          omega
      · skip
        rcases hd with _ | _
        · have hho : holds = -1 := hpl.h2 rfl
          subst hho
          have hpr := lpair_any y wA
          go_wp2_with fail
          refine hpr.mono ?_
          rintro e wB ⟨rfl, hcB0⟩
          clear hpr
          have hlB := hlA.nil hcB0
          have hcB := hch.trans hcB0 (by simp)
          have hcX : Ch [] wB (wB.alloc (.cells #[.string (str kH), .string ⟨#[]⟩, .bool true] 32)) := (Ch.refl [] wB).alloc _
          have hlF := hlB.nil hcX
          have hok : ∀ q ∈ [pG], q.ok ∧ q.k.length ≤ 8 ∧ q.v.length ≤ 20 := by
            intro q hq
            rw [List.mem_singleton] at hq
            subst hq
            exact ⟨⟨by decide, by decide⟩, by decide, by decide⟩
          have hap := stapply_any (some ⟨wB.heap.size, 0, none⟩) 1 1 [pG] _ hlF.st hlF.hX (pairs_block [pG] (heap_alloc_new wB _) (by simp [maxLen])) rfl (by omega) (fun q hq => (hok q hq).1) (by omega) (commitP_fit 800 512 a 8 20 [pG] hok (by omega) (by simp only [List.length_cons, List.length_nil]; omega))
          have hlen := lenP_le 512 8 20 1 [pG] hok (by omega) (by simp)
          have HLE := Lib.hid hlen
          clear hlen hok
          go_wp2_with fail
          refine hap.mono ?_
          rintro e wC ⟨rfl, hsC, hcC0⟩
          clear hap
          have hlC : LatS wC sb lb um b g m y 800 0 _ (chgs D [pG]) ep ow false none := ⟨hsC, hlF.lt.keep hcC0 (by have := hlF.yn; simp only [List.mem_cons, List.not_mem_nil, or_false]; omega), epoch_gone hlF.ep, noted_gone D, hlF.yn⟩
          have hcC : Ch [] w wC := (hcB.trans hcX (by simp)).trans hcC0 (fun z hz => .inr (by simp only [List.mem_cons, List.not_mem_nil, or_false] at hz; have := HSW.out; omega))
          have hle1 := HLE.out
          generalize lenF 512 ([pG].map encP) = ll at *
          clear hlA hlB hlF hsC hcX hcC0 hcB0 hcB HLE
          go_wp2_with fail
          have hwho := lats_none wC hlC
          go_wp2_with fail
          refine hwho.mono ?_
          rintro e wY ⟨rfl, hcY⟩
          clear hwho
          have hlY := hlC.nil hcY
          have hcwY := hcC.trans hcY (by simp)
          have hepo := lepoch_any _ _ _ _ wY hlY.lt
          go_wp2_with fail
          refine hepo.mono ?_
          rintro e wZ ⟨rfl, rfl⟩
          clear hepo
          go_wp2_with fail
          refine ⟨⟨k + 1, sb, lb, um, y, _, ep, _, _, false, none, (-1), (-1), 0, by omega, rfl, rfl, by go_num, rfl, rfl, rfl, by go_num, by omega, by omega, hlY, ⟨by simp, fun _ => rfl, fun _ => rfl, by simp⟩, hss, hcwY⟩, ?_⟩
          simp [intOf]
          omega
        · obtain ⟨hh1, hh2, hh3, hh4⟩ := hpl.h1 rfl
          have hge : holds ≥ 0 := hh1
          go_wp2_with fail
          refine ⟨⟨k + 1, sb, lb, um, y, _, ep, _, _, true, _, _, _, _, by omega, rfl, rfl, by go_num, rfl, rfl, rfl, by go_num, by omega, by omega, hlA, hpl, hss, hch⟩, ?_⟩
          simp [intOf]
          omega
    · obtain rfl : k = n := by omega
      clear hlt hk
      go_wp2_with fail
      go_ret
      exact ⟨rfl, hch⟩

end Go.Proofs.YtbkncfedahifkaaGreat
