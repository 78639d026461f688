/-
  Package wal: Open, whole.
-/
import Derived.Test.YtbkncfedahifkaaWOpen2
set_option linter.unusedVariables false
set_option linter.unusedSimpArgs false
namespace Go.Proofs.Ytbkncfedahifkaa
open Go.RowKit Go.Maps

theorem wopen_small (b g m n sz : Nat) (X : List Nat) (R : Nat → List UInt8) (w : World) (h : Live w b g m X n sz R) (hs : n < 16) :
    Calls Try.prog 56 #[.pointer (some ⟨b, 0, none⟩)] w fun e w' => e = .returned (.tuple #[.pointer none, .slice none 0 0, .int .i64 41]) ∧ w = w' := by
  have hse := live_sectors _ _ _ _ _ _ _ w h
  have hlt : decide ((n : Int) < 16) = true := by simp; omega
  go_enter Try.func56, Try.ntmps56
  go_wp2_with fail
  refine hse.mono ?_
  rintro e w' ⟨rfl, rfl⟩
  go_wp2_with fail
  go_ret3
  exact ⟨rfl, rfl⟩

/-- The turn that a log begins with. -/
def beginT (R : Nat → List UInt8) (n sz : Nat) : Nat := (stB R n sz 2).getD 0
def atOf (w : World) (lb : Nat) : Nat := match w.cell? ⟨lb, 3, none⟩ with
  | some (.int _ z) => z.toNat
  | _ => 0
/-- What a log that is opened comes to. -/
def WOpened (R : Nat → List UInt8) (n sz : Nat) : List (List UInt8) × Nat × Nat := openAll R n sz (beginT R n sz) (n / 2 + 1) 0 0

set_option maxRecDepth 100000 in
set_option maxHeartbeats 4000000 in
theorem wopen_any (b g m n sz : Nat) (X : List Nat) (R : Nat → List UInt8) (w : World) (h : Live w b g m X n sz R) (hX : ∀ x ∈ X, x < w.heap.size) (hn : 16 ≤ n) (hsz : 128 ≤ sz) :
    Calls Try.prog 56 #[.pointer (some ⟨b, 0, none⟩)] w fun e w' => ∃ lb um v, e = .returned (.tuple #[.pointer (some ⟨lb, 0, none⟩), v, .int .i64 0]) ∧ w.heap.size ≤ lb ∧ w.heap.size ≤ um ∧
      LogS w' lb um b g m X n sz R (beginT R n sz) (WOpened R n sz).2.2 (WOpened R n sz).2.1 (WOpened R n sz).1.length ∧ RowsO w' w.heap.size v (WOpened R n sz).1 ∧ Ch [] w w' := by
  have hmm := @run_makeMap Try.prog
  have hmf : ∀ (fn : Fn) (first cap : Array Value) (w : World), (Instr.makeFunc fn first cap).run Try.prog w = .ok (.func fn first cap) w := fun _ _ _ _ => rfl
  have hbd := h.bds
  have hse := live_sectors _ _ _ _ _ _ _ w h
  have hsi := live_size _ _ _ _ _ _ _ w h
  have hlt : decide ((n : Int) < 16) = false := by simp; omega
  have hlt2 : decide ((sz : Int) < 128) = false := by simp; omega
  go_enter Try.func56, Try.ntmps56
  go_wp2_with fail
  refine hse.mono ?_
  rintro e w' ⟨rfl, rfl⟩
  go_wp2_with fail
  refine hsi.mono ?_
  rintro e w' ⟨rfl, rfl⟩
  clear hse hsi
  go_wp2_with fail
  have hc0 : Ch [] w (((w.alloc (.map #[] 0)).alloc (.cells #[.pointer (some ⟨b, 0, none⟩), .int .u64 0, .int .u64 0, .int .i64 0, .int .i64 0, .map (some w.heap.size)] 124)).alloc (.cells #[.pointer (some ⟨w.heap.size + 1, 0, none⟩)] 88)) := (((Ch.refl [] w).alloc _).alloc _).alloc _
  have hcm : (((w.alloc (.map #[] 0)).alloc (.cells #[.pointer (some ⟨b, 0, none⟩), .int .u64 0, .int .u64 0, .int .i64 0, .int .i64 0, .map (some w.heap.size)] 124)).alloc (.cells #[.pointer (some ⟨w.heap.size + 1, 0, none⟩)] 88)).heap[w.heap.size]? = some (.map #[] 0) :=
    (((Ch.refl [] (w.alloc (.map #[] 0))).alloc _).alloc _).at_ (heap_alloc_new w _) (by simp)
  have hcl : (((w.alloc (.map #[] 0)).alloc (.cells #[.pointer (some ⟨b, 0, none⟩), .int .u64 0, .int .u64 0, .int .i64 0, .int .i64 0, .map (some w.heap.size)] 124)).alloc (.cells #[.pointer (some ⟨w.heap.size + 1, 0, none⟩)] 88)).heap[w.heap.size + 1]? = some (.cells #[.pointer (some ⟨b, 0, none⟩), .int .u64 0, .int .u64 0, .int .i64 0, .int .i64 0, .map (some w.heap.size)] 124 (0, 0)) := by
    have h1 := heap_alloc_new (w.alloc (.map #[] 0)) (.cells #[.pointer (some ⟨b, 0, none⟩), .int .u64 0, .int .u64 0, .int .i64 0, .int .i64 0, .map (some w.heap.size)] 124)
    have h2 := ((Ch.refl [] _).alloc (.cells #[.pointer (some ⟨w.heap.size + 1, 0, none⟩)] 88)).at_ h1 (by simp)
    rw [show (w.alloc (.map #[] 0)).heap.size = w.heap.size + 1 from by simp] at h2
    exact h2
  have hcv : (((w.alloc (.map #[] 0)).alloc (.cells #[.pointer (some ⟨b, 0, none⟩), .int .u64 0, .int .u64 0, .int .i64 0, .int .i64 0, .map (some w.heap.size)] 124)).alloc (.cells #[.pointer (some ⟨w.heap.size + 1, 0, none⟩)] 88)).heap[w.heap.size + 1 + 1]? = some (.cells #[.pointer (some ⟨w.heap.size + 1, 0, none⟩)] 88 (0, 0)) := by
    have h1 := heap_alloc_new ((w.alloc (.map #[] 0)).alloc (.cells #[.pointer (some ⟨b, 0, none⟩), .int .u64 0, .int .u64 0, .int .i64 0, .int .i64 0, .map (some w.heap.size)] 124)) (.cells #[.pointer (some ⟨w.heap.size + 1, 0, none⟩)] 88)
    simpa using h1
  have hlive := ((h.add (x := w.heap.size) (Nat.le_refl _)).add (x := w.heap.size + 1) (by omega)).nil hc0
  generalize hwe : ((w.alloc (.map #[] 0)).alloc (.cells #[.pointer (some ⟨b, 0, none⟩), .int .u64 0, .int .u64 0, .int .i64 0, .int .i64 0, .map (some w.heap.size)] 124)).alloc (.cells #[.pointer (some ⟨w.heap.size + 1, 0, none⟩)] 88) = w0 at *
  clear hwe hmm
  generalize hue : w.heap.size = um at *
  have HUE := Lib.hid hue
  have hlb1 : um < um + 1 := by omega
  have hlv1 : um + 1 < um + 1 + 1 := by omega
  generalize hve : um + 1 + 1 = lv at *
  generalize hle : um + 1 = lb at *
  clear hue hve hle
  have hL0 : LogS w0 lb um b g m X n sz R 0 0 0 0 := {
    cells := hcl
    map := ⟨#[], 0, hcm, ⟨by simp, MapKept.stamped_empty 0, by simp⟩, Nat.le_refl _, rfl⟩
    live := hlive
    lX := fun hx => by have := hX _ hx; omega
    uX := fun hx => by have := hX _ hx; omega
    n16 := hn, s128 := hsz, turnB := by omega, nextB := by omega, atB := Nat.zero_le _, countB := by omega }
  have hbe := begin_any w0 hL0
  clear hcl hcm hlive
  refine hbe.mono ?_
  rintro e w1 ⟨rfl, hL1, hc1⟩
  clear hbe hL0
  have hcv1 := hc1.at_ hcv (by simp; omega)
  have hcw1 : Ch [] w w1 := hc0.trans hc1 (by have := HUE.out; simp; omega)
  have hs1 := hcw1.size
  have hBT : (stB R n sz 2).getD 0 = beginT R n sz := rfl
  rw [hBT] at hL1
  have hTl : beginT R n sz < 18446744073709551616 := hL1.turnB
  have hopA : WOpened R n sz = openAll R n sz (beginT R n sz) (n / 2 + 1) 0 0 := rfl
  have HOA := Lib.hid hopA
  clear hopA hBT hcv hc1 hc0
  generalize hTe : beginT R n sz = T at *
  have HTE := Lib.hid hTe
  clear hTe
  have hlbl := lt_of_at hL1.cells
  have hlvl := lt_of_at hcv1
  go_wp2_with fail
  go_loopw [7] (fun out wr => ∃ (done : List (List UInt8)) (a nx cnt f : Nat), RowsO wr w1.heap.size out done ∧ LogS wr lb um b g m X n sz R T nx a cnt ∧ wr.heap[lv]? = some (.cells #[.pointer (some ⟨lb, 0, none⟩)] 88 (0, 0)) ∧ Ch [lb] w1 wr ∧
      openAll R n sz T (n / 2 + 1) 0 0 = (done ++ (openAll R n sz T f a nx).1, (openAll R n sz T f a nx).2) ∧ n / 2 < a + f ∧ cnt = done.length ∧ done.length ≤ a * 4096 ∧ nx ≤ a) (fun _ wr => n / 2 - atOf wr lb)
  case atStart => exact ⟨[], 0, 0, 0, n / 2 + 1, RowsO.empty _ _, hL1, hcv1, Ch.refl _ _, by simp, by omega, rfl, by simp, Nat.le_refl _⟩
  case round =>
    have HL1 := Lib.hid hL1
    clear hL1 hcv1
    obtain ⟨done, a, nx, cnt, f, hout, hL, hcv, hch, hall, hfu, hcnt, hdl, hnx⟩ := hrel
    obtain ⟨wA, hwA⟩ : ∃ W, W = wr := ⟨_, rfl⟩
    subst hwA
    have haB := hL.atB
    obtain ⟨f, rfl⟩ : ∃ q, f = q + 1 := ⟨f - 1, by omega⟩
    have hsA := hch.size
    have hat0 : atOf wA lb = a := by
      have hc3 := cell_at hL.cells 3 rfl
      unfold atOf
      rw [hc3]
      simp
    have hcA : Ch [] wA ((wA.alloc (.cells #[.slice none 0 0] 64)).alloc (.cells #[.int .i64 0] 3)) := ((Ch.refl [] wA).alloc _).alloc _
    have hrp := heap_alloc2_old wA (.cells #[.slice none 0 0] 64) (.cells #[.int .i64 0] 3)
    have hbp := heap_alloc2_new wA (.cells #[.slice none 0 0] 64) (.cells #[.int .i64 0] 3)
    have hsz2 : ((wA.alloc (.cells #[.slice none 0 0] 64)).alloc (.cells #[.int .i64 0] 3)).heap.size = wA.heap.size + 2 := by simp
    have HALL := Lib.hid hall
    have HAT0 := Lib.hid hat0
    have HCNT := Lib.hid hcnt
    clear hall hat0 hcnt
    go_wp2_with fail
    generalize hw2 : (wA.alloc (.cells #[.slice none 0 0] 64)).alloc (.cells #[.int .i64 0] 3) = w2 at *
    clear hw2
    have hL2 := hL.nil hcA
    have hcv2 := hcA.at_ hcv (by simp)
    have htry := wtry_any 89 #[.pointer (some ⟨lv, 0, none⟩), .pointer (some ⟨wA.heap.size, 0, none⟩), .pointer (some ⟨wA.heap.size + 1, 0, none⟩)] [wA.heap.size, wA.heap.size + 1]
      (fun w' => ∃ rs bh v, stepO R n sz T a nx = some (rs, bh) ∧ w'.heap[wA.heap.size]? = some (.cells #[v] 64 (0, 0)) ∧ w'.heap[wA.heap.size + 1]? = some (.cells #[.int .i64 (bh : Int)] 3 (0, 0)) ∧ RowsO w' (w2.heap.size + 2) v rs) (fun _ => stepO R n sz T a nx = none) w2
      (fun W => (enters_of Try.func89 (by kernel_rfl) rfl) _ W) (by simp; omega)
      (fun v1 v2 ⟨rs, bh, v, q1, q2, q3, q4⟩ hc => ⟨rs, bh, v, q1, hc.at_ q2 (by simp; omega), hc.at_ q3 (by simp; omega), q4.keep hc (by simp)⟩) (fun _ _ h _ => h)
      (fun W hW hWs => (openC_any lv _ _ _ _ W (hL2.nil hW) (by omega) (hW.at_ hcv2 (by simp)) (hW.at_ hrp (by simp)) (hW.at_ hbp (by simp))).mono (by
        rintro e w' ⟨q0, q⟩
        refine ⟨q0, ?_⟩
        rcases q with ⟨e1, rs, bh, v, q1, q2, q3, q4⟩ | ⟨e1, q1⟩
        · exact .inl ⟨e1, rs, bh, v, q1, q2, q3, q4.rebase hWs⟩
        · exact .inr ⟨e1, q1⟩))
    refine htry.mono ?_
    rintro e w3 ⟨hc3, he⟩
    clear htry
    have hcA3 : Ch [] wA w3 := hcA.trans hc3 (by simp)
    have hL3 := hL.nil hcA3
    have hcv3 := hcA3.at_ hcv (by simp)
    have hout3 := hout.nil hcA3
    have clv := cell_at hcv3 0 rfl
    have hch3 := hch.trans hcA3 (by simp)
    rcases he with ⟨rfl, rs, bh, v, hst, hrp3, hbp3, hrows⟩ | ⟨rfl, hst⟩
    · obtain ⟨vs', hvs', hvr'⟩ := id hrows
      obtain ⟨Ar, cr, rfl⟩ := own_slice hvs'
      obtain ⟨vs, hvs, hvr⟩ := id hout3
      have hsm := stepO_some hst hbd.2.2.2 hsz hbd.2.1
      have hvl : vs.length = done.length := by have := hvs.1; simpa using this
      have hnext : openAll R n sz T (n / 2 + 1) 0 0 = ((done ++ rs) ++ (openAll R n sz T f bh (nx + 1)).1, (openAll R n sz T f bh (nx + 1)).2) := by rw [HALL.out]; simp [openAll, hst]
      have HNEXT := Lib.hid hnext
      clear hst hnext
      obtain ⟨hab, hbn, hrl⟩ := hsm
      have hdr : done.length + rs.length ≤ bh * 4096 := by
        have : (bh - a) * 4096 = bh * 4096 - a * 4096 := Nat.sub_mul _ _ _
        have : a * 4096 ≤ bh * 4096 := Nat.mul_le_mul_right _ (by omega)
        omega
      have hdr2 : done.length + rs.length ≤ 2048 * 4096 := by
        have : bh * 4096 ≤ 2048 * 4096 := Nat.mul_le_mul_right _ (by omega)
        omega
      have hs3 := hch3.size
      have crp := cell_at hrp3 0 rfl
      have hrdr : Rd 1 w3 Ar rs.length cr vs' := own_rd hvs'
      have hone : ∀ u ∈ vs', u.oneCell' = true := by
        intro u hu
        obtain ⟨i, hi, rfl⟩ := List.mem_iff_getElem.1 hu
        have hil : i < rs.length := by have := hvs'.1; simp at this; omega
        obtain ⟨u2, q1, A9, n9, c9, e9, _⟩ := hvr' i hil
        rw [List.getElem?_eq_getElem hi] at q1
        injection q1 with q1
        rw [q1, e9]
        rfl
      have hvr2 : ∀ u0 : Value, (∀ k, u0.ownBlock = some k → k < w2.heap.size + 2) → ∀ (i : Nat) (h : i < rs.length), ∃ u, vs'[i]? = some u ∧ RowO w3 w1.heap.size u0 u rs[i] := by
        intro u0 hu0 i hi
        obtain ⟨u2, q1, A9, n9, c9, e9, q2, q3⟩ := hvr' i hi
        refine ⟨u2, q1, A9, n9, c9, e9, q2, fun ad had => ⟨by have := (q3 ad had).1; omega, (q3 ad had).2.1, fun e => ?_⟩⟩
        have h1 := hu0 _ e
        have h2 := (q3 ad had).1
        omega
      obtain ⟨Ao, co, rfl⟩ := own_slice hvs
      have hob : ∀ k, (Value.slice Ao done.length co).ownBlock = some k → k < w2.heap.size + 2 := by
        obtain ⟨vs0, hv0, _⟩ := id hout
        intro k hk
        have := own_lt hv0 k hk
        omega
      have hob0 : ∀ k, (Value.slice Ao done.length co).ownBlock = some k → k < wA.heap.size := by
        obtain ⟨vs0, hv0, _⟩ := id hout
        intro k hk
        exact own_lt hv0 k hk
      have HOB := Lib.hid hob0
      have hvr3 := hvr2 _ hob
      have HVR := Lib.hid hvr
      have HVR3 := Lib.hid hvr3
      have HVL := Lib.hid hvl
      have HC3 := Lib.hid hbp3
      have cbp := cell_at hbp3 0 rfl
      clear hob0 hob hvr hvr2 hvr3 hvr' hvs' hvl hrows hout hout3 hrp hbp hbp3 hrp3
      have hobA : ∀ k, (Value.slice Ao done.length co).ownBlock = some k → w1.heap.size ≤ k ∧ k < wA.heap.size := fun k hk => ⟨own_ge hvs k hk, HOB.out k hk⟩
      have hnot : ∀ y, y < w1.heap.size ∨ wA.heap.size ≤ y → y ∉ (Value.slice Ao done.length co).ownBlock.toList := by
        intro y hy hm
        have := hobA y (by simpa using hm)
        omega
      have n1 := hnot lv (.inl hlvl)
      have n2 := hnot lb (.inl hlbl)
      have n3 := hnot wA.heap.size (.inr (Nat.le_refl _))
      have n4 := hnot (wA.heap.size + 1) (.inr (by omega))
      have HOBA := Lib.hid hobA
      have N1 := Lib.hid n1
      have N2 := Lib.hid n2
      have N3 := Lib.hid n3
      have N4 := Lib.hid n4
      have hne1 : ¬ lb = lv := by omega
      have hne2 : ¬ lv = lb := by omega
      have hne3 : ¬ lb = wA.heap.size := by omega
      have hne4 : ¬ lb = wA.heap.size + 1 := by omega
      have hne5 : ¬ wA.heap.size = lb := by omega
      have hne6 : ¬ wA.heap.size + 1 = lb := by omega
      have hnxb : nx ≤ 2048 := by omega
      clear hobA hnot n1 n2 n3 n4
      go_wp2_with (first
        | (at_builtin; refine app_rd rfl (.tmp 47) (.tmp 48) 64 28 (.slice none 0 0) 1 24 (by decide) rfl Try.underlying64 Try.info28 rfl _ _ vs vs' Ar rs.length cr rfl rfl hone hvs hrdr hs3 (by omega) (by unfold maxLen; omega) ?_; intro v6 w6 h6 hgr6 hat6; have hcg : Ch (Value.slice Ao done.length co).ownBlock.toList w3 w6 := (Ch.refl _ _).grown hgr6 (fun y hy => .inl (Option.mem_toList.2 hy)); have clv6 := hcg.cell clv N1.out; have crp6 := hcg.cell crp N3.out; have cbp6 := hcg.cell cbp N4.out; have hcl6 := hcg.at_ hL3.cells N2.out; have cl3 := cell_at hcl6 3 rfl; have cl2 := cell_at hcl6 2 rfl; have fl3 := free_at hcl6 3; have fl2 := free_at hcl6 2)
        | fail)
      have hrows6 := RowsO.app HVR.out HVL.out HVR3.out h6 hgr6 hat6 hs3
      have hch6 : Ch [lb] w1 w6 := hch3.trans hcg (by
        intro y hy
        have := HOBA.out y (Option.mem_toList.1 hy)
        right
        omega)
      have hcnb : cnt ≤ 8388608 := by have := HCNT.out; omega
      have hwc : IntKind.i64.wrap ((cnt : Int) + (rs.length : Int)) = (cnt : Int) + (rs.length : Int) := by rw [IntKind.wrap_i64]; omega
      have b1 := heap_setCell_same w6 lb 3 _ 124 (.int .i64 (bh : Int)) hcl6
      have b2 := heap_setCell_same _ lb 2 _ 124 (.int .u64 ((nx : Int) + 1)) b1
      have hc67 : Ch [lb] w6 ((w6.setCell ⟨lb, 3, none⟩ (.int .i64 (bh : Int))).setCell ⟨lb, 2, none⟩ (.int .u64 ((nx : Int) + 1))) := ((Ch.refl _ _).setCell _ _ (by simp)).setCell _ _ (by simp)
      generalize hw7 : (w6.setCell ⟨lb, 3, none⟩ (.int .i64 (bh : Int))).setCell ⟨lb, 2, none⟩ (.int .u64 ((nx : Int) + 1)) = w7 at *
      clear hw7 b1
      have hcl7 : w7.heap[lb]? = some (.cells #[.pointer (some ⟨b, 0, none⟩), .int .u64 (T : Int), .int .u64 ((nx : Int) + 1), .int .i64 (bh : Int), .int .i64 (cnt : Int), .map (some um)] 124 (0, 0)) := by simpa using b2
      have clv7 := hc67.cell clv6 (by simpa using hne2)
      have crp7 := hc67.cell crp6 (by simpa using hne5)
      have cl4 := cell_at hcl7 4 rfl
      have fl4 := free_at hcl7 4
      have b3 := heap_setCell_same w7 lb 4 _ 124 (.int .i64 ((cnt : Int) + (rs.length : Int))) hcl7
      have hs9 : Ch [lb] w7 (w7.setCell ⟨lb, 4, none⟩ (.int .i64 ((cnt : Int) + (rs.length : Int)))).drew := ((Ch.refl _ _).setCell _ _ (by simp)).drew
      have hcl9 : (w7.setCell ⟨lb, 4, none⟩ (.int .i64 ((cnt : Int) + (rs.length : Int)))).drew.heap[lb]? = some (.cells #[.pointer (some ⟨b, 0, none⟩), .int .u64 (T : Int), .int .u64 ((nx + 1 : Nat) : Int), .int .i64 (bh : Int), .int .i64 ((cnt + rs.length : Nat) : Int), .map (some um)] 124 (0, 0)) := by
        rw [Int.natCast_add, Int.natCast_add]
        show (w7.setCell ⟨lb, 4, none⟩ (.int .i64 ((cnt : Int) + (rs.length : Int)))).heap[lb]? = _
        simpa using b3
      have hch9 : Ch [lb] w1 (w7.setCell ⟨lb, 4, none⟩ (.int .i64 ((cnt : Int) + (rs.length : Int)))).drew := (hch6.trans hc67 (fun y hy => .inl hy)).trans hs9 (fun y hy => .inl hy)
      have hL9 := HL1.out.re hch9 (turn' := T) (next' := nx + 1) (at' := bh) (count' := cnt + rs.length) hcl9 hTl (by omega) hbn (by omega)
      have hrows9 := hrows6.keep (hc67.trans hs9 (fun y hy => .inl hy)) (by intro y hy; simp at hy; left; omega)
      have hcv9 : (w7.setCell ⟨lb, 4, none⟩ (.int .i64 ((cnt : Int) + (rs.length : Int)))).drew.heap[lv]? = some (.cells #[.pointer (some ⟨lb, 0, none⟩)] 88 (0, 0)) := hs9.at_ (hc67.at_ (hcg.at_ hcv3 N1.out) (by simpa using hne2)) (by simpa using hne2)
      have hat9 : atOf (w7.setCell ⟨lb, 4, none⟩ (.int .i64 ((cnt : Int) + (rs.length : Int)))).drew lb = bh := by
        have hc9 := cell_at hcl9 3 rfl
        unfold atOf
        rw [hc9]
        simp
      have HFIN := Lib.hid (show _ ∧ _ ∧ _ ∧ _ ∧ _ from ⟨hrows9, hL9, hcv9, hch9, hat9⟩)
      clear b2 b3 hcl9 hch9 hL9 hrows9 hcv9 hat9 hrows6 h6 hgr6 hat6 hcl7 hch6 hcl6 cl3 cl2 fl3 fl2 clv6 crp6 cbp6
      refine dr_begin (by kernel_rfl) ?_
      refine dr_more (fun W => W.cell? ⟨lv, 0, none⟩ = some (.pointer (some ⟨lb, 0, none⟩)) ∧ W.cell? ⟨wA.heap.size, 0, none⟩ = some (.slice Ar rs.length cr)) ?_
      have hT : True ∧ (w7.drew.cell? ⟨lv, 0, none⟩ = some (.pointer (some ⟨lb, 0, none⟩)) ∧ w7.drew.cell? ⟨wA.heap.size, 0, none⟩ = some (.slice Ar rs.length cr)) := ⟨trivial, clv7, crp7⟩
      refine dr_take 0 (some 61) (v := ?_) rfl rfl (by kernel_rfl) (by kernel_rfl) (by kernel_rfl) (fun _ _ _ h => h) rfl hT (fun W hW => ?_) ?_
      rotate_left
      · (have h1 := hW.2.1; go_simp; try with_reducible rfl)
      try simp only [Act.put, List.setIfInBounds_toArray, List.set_cons_zero, List.set_cons_succ]
      refine dr_take 1 (some 62) (v := ?_) rfl rfl (by kernel_rfl) (by kernel_rfl) (by kernel_rfl) (fun _ _ _ h => h) rfl hT (fun W _ => ?_) ?_
      rotate_left
      · (go_simp; try with_reducible rfl)
      try simp only [Act.put, List.setIfInBounds_toArray, List.set_cons_zero, List.set_cons_succ]
      refine dr_take 2 (some 63) (v := ?_) rfl rfl (by kernel_rfl) (by kernel_rfl) (by kernel_rfl) (fun _ _ _ h => h) rfl hT (fun W _ => ?_) ?_
      rotate_left
      · (go_simp; try with_reducible rfl)
      try simp only [Act.put, List.setIfInBounds_toArray, List.set_cons_zero, List.set_cons_succ]
      refine dr_take 4 (some 65) (v := ?_) rfl rfl (by kernel_rfl) (by kernel_rfl) (by kernel_rfl) (fun _ _ _ h => h) rfl hT (fun W hW => ?_) ?_
      rotate_left
      · (have h1 := hW.2.2; go_simp; try with_reducible rfl)
      try simp only [Act.put, List.setIfInBounds_toArray, List.set_cons_zero, List.set_cons_succ]
      refine dr_take 5 (some 66) (v := ?_) rfl rfl (by kernel_rfl) (by kernel_rfl) (by kernel_rfl) (fun _ _ _ h => h) rfl hT (fun W _ => ?_) ?_
      rotate_left
      · (go_simp; try with_reducible rfl)
      try simp only [Act.put, List.setIfInBounds_toArray, List.set_cons_zero, List.set_cons_succ]
      refine dr_step 3 rfl (by kernel_rfl) rfl (fun K hK => ?_)
      go_simp
      refine hK.out _ _ hT ?_
      clear hK K
      try simp only [Act.put, List.setIfInBounds_toArray, List.set_cons_zero, List.set_cons_succ]
      refine dr_take 6 (some 67) (v := ?_) rfl rfl (by kernel_rfl) (by kernel_rfl) (by kernel_rfl) (fun _ _ _ h => h) rfl hT (fun W _ => ?_) ?_
      rotate_left
      · (go_simp; try with_reducible rfl)
      try simp only [Act.put, List.setIfInBounds_toArray, List.set_cons_zero, List.set_cons_succ]
      refine dr_take 7 (some 68) (v := ?_) rfl rfl (by kernel_rfl) (by kernel_rfl) (by kernel_rfl) (fun _ _ _ h => h) rfl hT (fun W _ => ?_) ?_
      rotate_left
      · (go_simp; try with_reducible rfl)
      try simp only [Act.put, List.setIfInBounds_toArray, List.set_cons_zero, List.set_cons_succ]
      refine dr_take 8 (some 69) (v := ?_) rfl rfl (by kernel_rfl) (by kernel_rfl) (by kernel_rfl) (fun _ _ _ h => h) rfl hT (fun W _ => ?_) ?_
      rotate_left
      · (go_simp; try with_reducible rfl)
      try simp only [Act.put, List.setIfInBounds_toArray, List.set_cons_zero, List.set_cons_succ]
      refine dr_step 9 rfl (by kernel_rfl) rfl (fun K hK => ?_)
      go_simp
      have hT : True ∧ ((w7.setCell ⟨lb, 4, none⟩ (.int .i64 ((cnt : Int) + (rs.length : Int)))).drew.cell? ⟨lv, 0, none⟩ = some (.pointer (some ⟨lb, 0, none⟩)) ∧ (w7.setCell ⟨lb, 4, none⟩ (.int .i64 ((cnt : Int) + (rs.length : Int)))).drew.cell? ⟨wA.heap.size, 0, none⟩ = some (.slice Ar rs.length cr)) := ⟨trivial, hs9.cell clv7 (by simpa using hne2), hs9.cell crp7 (by simpa using hne5)⟩
      refine hK.out _ _ hT ?_
      clear hK K
      try simp only [Act.put, List.setIfInBounds_toArray, List.set_cons_zero, List.set_cons_succ]
      refine dr_done (by kernel_rfl) ?_
      go_wp2_with fail
      refine ⟨⟨done ++ rs, bh, nx + 1, cnt + rs.length, f, HFIN.out.1, HFIN.out.2.1, HFIN.out.2.2.1, HFIN.out.2.2.2.1, HNEXT.out, by omega, by have := HCNT.out; rw [List.length_append]; omega, by rw [List.length_append]; omega, by omega⟩, ?_⟩
      rw [HFIN.out.2.2.2.2, HAT0.out]; omega
    · have hfin : openAll R n sz T (n / 2 + 1) 0 0 = (done, a, nx) := by rw [HALL.out]; simp [openAll, hst]
      have HFIN := Lib.hid hfin
      clear hst hfin
      go_wp2_with fail
      go_ret3
      refine ⟨lb, um, _, rfl, ?_, ?_, ?_, ?_, hcw1.trans hch3 (by have := HUE.out; simp; omega)⟩
      · have := HUE.out; omega
      · have := HUE.out; omega
      · rw [HOA.out, HTE.out, HFIN.out, ← HCNT.out]
        exact hL3
      · rw [HOA.out, HFIN.out]
        exact hout3.rebase hs1

end Go.Proofs.Ytbkncfedahifkaa
