/-
  Package wal: what a log is; half, size, sectors, most, Count, Room, long, bytes.
-/
import Derived.Test.YtbkncfedahifkaaWGet
import Derived.Deep.QuietTactic
import Derived.BigQuiet
set_option linter.unusedVariables false
set_option linter.unusedSimpArgs false
namespace Go.Proofs.Ytbkncfedahifkaa
open Go.RowKit Go.Maps

/-- A log at block lb, its map (that is empty) at um, over a disk. -/
structure LogS (w : World) (lb um b g m : Nat) (X : List Nat) (n sz : Nat) (R : Nat → List UInt8) (turn next at_ count : Nat) : Prop where
  cells : w.heap[lb]? = some (.cells #[.pointer (some ⟨b, 0, none⟩), .int .u64 (turn : Int), .int .u64 (next : Int), .int .i64 (at_ : Int), .int .i64 (count : Int), .map (some um)] 124 (0, 0))
  map : w.ownsMap Try.prog 3 selfR um 0 (.map [])
  live : Live w b g m (lb :: um :: X) n sz R
  lX : lb ∉ X
  uX : um ∉ X
  n16 : 16 ≤ n
  s128 : 128 ≤ sz
  turnB : turn < 18446744073709551616
  nextB : next < 18446744073709551616
  atB : at_ ≤ n / 2
  countB : count < 4611686018427387904

section
variable {w w' : World} {lb um b g m n sz turn next at_ count : Nat} {X : List Nat} {R : Nat → List UInt8}
theorem LogS.lu (h : LogS w lb um b g m X n sz R turn next at_ count) : lb ≠ um := by
  rintro rfl
  obtain ⟨es, clock, hb, _⟩ := h.map
  rw [h.cells] at hb
  simp at hb
theorem LogS.bds (h : LogS w lb um b g m X n sz R turn next at_ count) : 16 ≤ n ∧ n ≤ 4096 ∧ 128 ≤ sz ∧ sz ≤ 4096 := by
  have := h.live.bds
  have h1 := h.n16
  have h2 := h.s128
  omega
theorem LogS.keep (h : LogS w lb um b g m X n sz R turn next at_ count) (hc : Ch X w w') : LogS w' lb um b g m X n sz R turn next at_ count :=
  { h with
    cells := hc.at_ h.cells h.lX
    map := by
      obtain ⟨es, clock, hb, F, hs, hD⟩ := h.map
      exact ⟨es, clock, hc.at_ hb h.uX, F, hs, hD⟩
    live := h.live.keep (hc.mono (by intro x hx; left; simp [hx])) }
theorem LogS.nil (h : LogS w lb um b g m X n sz R turn next at_ count) (hc : Ch [] w w') : LogS w' lb um b g m X n sz R turn next at_ count := h.keep (hc.mono (by simp))
end

section
variable {lb um b g m n sz turn next at_ count : Nat} {X : List Nat} {R : Nat → List UInt8}

theorem whalf (w : World) (h : LogS w lb um b g m X n sz R turn next at_ count) : Calls Try.prog 110 #[.pointer (some ⟨lb, 0, none⟩)] w fun e w' => e = .returned (.int .i64 ((n / 2 : Nat) : Int)) ∧ w = w' := by
  have hb := h.bds
  have h0 := cell_at h.cells 0 rfl
  go_enter Try.func110, Try.ntmps110
  go_wp2_with fail
  refine (live_sectors _ _ _ _ _ _ _ w h.live).mono ?_
  rintro e w' ⟨rfl, rfl⟩
  go_wp2_with fail
  go_ret
  exact ⟨rfl, rfl⟩
theorem wsize (w : World) (h : LogS w lb um b g m X n sz R turn next at_ count) : Calls Try.prog 102 #[.pointer (some ⟨lb, 0, none⟩)] w fun e w' => e = .returned (.int .i64 ((sz - 16 : Nat) : Int)) ∧ w = w' := by
  have hb := h.bds
  have h0 := cell_at h.cells 0 rfl
  have he : (sz : Int) - 16 = ((sz - 16 : Nat) : Int) := by omega
  have He := Lib.hid he
  clear he
  rw [← He.out]
  go_enter Try.func102, Try.ntmps102
  go_wp2_with fail
  refine (live_size _ _ _ _ _ _ _ w h.live).mono ?_
  rintro e w' ⟨rfl, rfl⟩
  go_wp2_with fail
  go_ret
  exact ⟨rfl, rfl⟩
/-- How many sectors so many bytes take. -/
def secsN (S k : Nat) : Nat := k / S + min (k % S) 1
theorem wsectors (k : Nat) (w : World) (h : LogS w lb um b g m X n sz R turn next at_ count) (hk : k ≤ 1000000000000) : Calls Try.prog 104 #[.pointer (some ⟨lb, 0, none⟩), .int .i64 (k : Int)] w fun e w' => e = .returned (.int .i64 (secsN (sz - 16) k : Int)) ∧ Ch [] w w' := by
  have hb := h.bds
  have hS0 : 0 < sz - 16 := by omega
  have hS1 : sz - 16 ≤ 4096 := by omega
  have hz := wsize w.drew (h.nil (Ch.refl _ _).drew)
  generalize hSe : sz - 16 = S at *
  have hd := Nat.div_le_self k S
  have hm := Nat.mod_lt k hS0
  have hS00 : ¬ S = 0 := by omega
  have e1 : (k : Int) / (S : Int) = ((k / S : Nat) : Int) := (Int.natCast_ediv k S).symm
  have e2 : (k : Int) % (S : Int) = ((k % S : Nat) : Int) := (Int.natCast_emod k S).symm
  have e2' : (k : Int).tmod (S : Int) = ((k % S : Nat) : Int) := by rw [Int.tmod_eq_emod_of_nonneg (by omega), e2]
  have e3 : IntKind.i64.wrap (((k / S : Nat) : Int) + min ((k % S : Nat) : Int) 1) = ((secsN S k : Nat) : Int) := by
    unfold secsN
    clear e1 e2 e2'
    generalize k / S = a at *
    generalize k % S = b at *
    rw [IntKind.wrap_i64]
    omega
  have e4 : IntKind.i64.wrap ((k / S : Nat) : Int) = ((k / S : Nat) : Int) := by
    clear e1 e2 e2' e3
    generalize k / S = a at *
    rw [IntKind.wrap_i64]
    omega
  have hfin : IntKind.i64.wrap (IntKind.i64.wrap ((k : Int) / (S : Int)) + min ((k : Int).tmod (S : Int)) 1) = ((secsN S k : Nat) : Int) := by rw [e1, e4, e2', e3]
  have Hfin := Lib.hid hfin
  clear e1 e2 e2' e3 e4 hfin
  go_enter Try.func104, Try.ntmps104
  have Hz := Lib.hid hz
  clear hz
  go_wp2_with fail
  refine dr_begin (by kernel_rfl) ?_
  have hT : True := trivial
  refine dr_take 0 (some 5) (v := ?_) rfl rfl (by kernel_rfl) (by kernel_rfl) (by kernel_rfl) (fun _ _ _ h => h) rfl hT (fun W _ => ?_) ?_
  rotate_left
  · (go_simp; try with_reducible rfl)
  try simp only [Act.put, List.setIfInBounds_toArray, List.set_cons_zero, List.set_cons_succ]
  refine dr_take 1 (some 6) (v := ?_) rfl rfl (by kernel_rfl) (by kernel_rfl) (by kernel_rfl) (fun _ _ _ h => h) rfl hT (fun W _ => ?_) ?_
  rotate_left
  · (go_simp; try with_reducible rfl)
  try simp only [Act.put, List.setIfInBounds_toArray, List.set_cons_zero, List.set_cons_succ]
  refine dr_take 4 (some 9) (v := ?_) rfl rfl (by kernel_rfl) (by kernel_rfl) (by kernel_rfl) (fun _ _ _ h => h) rfl hT (fun W _ => ?_) ?_
  rotate_left
  · (go_simp; try with_reducible rfl)
  try simp only [Act.put, List.setIfInBounds_toArray, List.set_cons_zero, List.set_cons_succ]
  refine dr_take 5 (some 10) (v := ?_) rfl rfl (by kernel_rfl) (by kernel_rfl) (by kernel_rfl) (fun _ _ _ h => h) rfl hT (fun W _ => ?_) ?_
  rotate_left
  · (go_simp; try with_reducible rfl)
  try simp only [Act.put, List.setIfInBounds_toArray, List.set_cons_zero, List.set_cons_succ]
  refine dr_step 2 rfl (by kernel_rfl) rfl (fun K hK => ?_)
  go_simp
  refine Hz.out.mono ?_
  rintro e v ⟨rfl, rfl⟩
  refine hK.out _ _ hT ?_
  clear hK K
  try simp only [Act.put, List.setIfInBounds_toArray, List.set_cons_zero, List.set_cons_succ]
  refine dr_take 3 (some 8) (v := ?_) rfl rfl (by kernel_rfl) (by kernel_rfl) (by kernel_rfl) (fun _ _ _ h => h) rfl hT (fun W _ => ?_) ?_
  rotate_left
  · (go_simp; try with_reducible rfl)
  try simp only [Act.put, List.setIfInBounds_toArray, List.set_cons_zero, List.set_cons_succ]
  refine dr_step 6 rfl (by kernel_rfl) rfl (fun K hK => ?_)
  go_simp
  refine Hz.out.mono ?_
  rintro e v ⟨rfl, rfl⟩
  refine hK.out _ _ hT ?_
  clear hK K
  try simp only [Act.put, List.setIfInBounds_toArray, List.set_cons_zero, List.set_cons_succ]
  refine dr_take 7 (some 12) (v := ?_) rfl rfl (by kernel_rfl) (by kernel_rfl) (by kernel_rfl) (fun _ _ _ h => h) rfl hT (fun W _ => ?_) ?_
  rotate_left
  · (go_simp; try with_reducible rfl)
  try simp only [Act.put, List.setIfInBounds_toArray, List.set_cons_zero, List.set_cons_succ]
  refine dr_take 8 (some 13) (v := ?_) rfl rfl (by kernel_rfl) (by kernel_rfl) (by kernel_rfl) (fun _ _ _ h => h) rfl hT (fun W _ => ?_) ?_
  rotate_left
  · (go_simp; try with_reducible rfl)
  try simp only [Act.put, List.setIfInBounds_toArray, List.set_cons_zero, List.set_cons_succ]
  refine dr_take 9 (some 14) (v := ?_) rfl rfl (by kernel_rfl) (by kernel_rfl) (by kernel_rfl) (fun _ _ _ h => h) rfl hT (fun W _ => ?_) ?_
  rotate_left
  · (go_simp; try with_reducible rfl)
  try simp only [Act.put, List.setIfInBounds_toArray, List.set_cons_zero, List.set_cons_succ]
  refine dr_take 10 (some 4) (v := ?_) rfl rfl (by kernel_rfl) (by kernel_rfl) (by kernel_rfl) (fun _ _ _ h => h) rfl hT (fun W _ => ?_) ?_
  rotate_left
  · (go_simp; try with_reducible rfl)
  try simp only [Act.put, List.setIfInBounds_toArray, List.set_cons_zero, List.set_cons_succ]
  refine dr_done (by kernel_rfl) ?_
  go_wp2_with fail
  go_ret
  exact ⟨congrArg (fun z => Ending.returned (.int .i64 z)) Hfin.out, (Ch.refl _ _).drew⟩
theorem wmost (a : Nat) (w : World) (h : LogS w lb um b g m X n sz R turn next at_ count) (ha : a ≤ n / 2) : Calls Try.prog 93 #[.pointer (some ⟨lb, 0, none⟩), .int .i64 (a : Int)] w fun e w' => e = .returned (.int .i64 (((n / 2 - a) * (sz - 16) : Nat) : Int)) ∧ w = w' := by
  have hb := h.bds
  have hh := whalf w h
  have hs := wsize w h
  have e1 : ((n / 2 : Nat) : Int) - (a : Int) = ((n / 2 - a : Nat) : Int) := by omega
  have b2 : n / 2 - a ≤ 2048 := by omega
  have b3 : sz - 16 ≤ 4096 := by omega
  have b4 : (n / 2 - a) * (sz - 16) ≤ 2048 * 4096 := Nat.mul_le_mul b2 b3
  have e2 : wrap64 ((((n / 2 : Nat) : Int) - (a : Int)) * ((sz - 16 : Nat) : Int)) = (((n / 2 - a) * (sz - 16) : Nat) : Int) := by
    rw [e1, ← Int.natCast_mul, wrap64]
    omega
  have E2 := Lib.hid e2
  clear e1 e2 b4
  generalize hx : n / 2 = x at *
  generalize hy : sz - 16 = y at *
  go_enter Try.func93, Try.ntmps93
  go_wp2_with fail
  refine hh.mono ?_
  rintro e w' ⟨rfl, rfl⟩
  go_wp2_with fail
  refine hs.mono ?_
  rintro e w' ⟨rfl, rfl⟩
  go_wp2_with fail
  go_ret
  exact ⟨congrArg (fun z => Ending.returned (.int .i64 z)) E2.out, rfl⟩
theorem wcount (w : World) (h : LogS w lb um b g m X n sz R turn next at_ count) : Calls Try.prog 60 #[.pointer (some ⟨lb, 0, none⟩)] w fun e w' => e = .returned (.int .i64 (count : Int)) ∧ w = w' := by
  have h4 := cell_at h.cells 4 rfl
  go_enter Try.func60, Try.ntmps60
  go_wp2_with fail
  go_ret
  exact ⟨rfl, rfl⟩
/-- How many bytes a commit may have. -/
def roomN (n sz at_ : Nat) : Nat := (n / 2 - at_) * (sz - 16) - 36
theorem wroom (w : World) (h : LogS w lb um b g m X n sz R turn next at_ count) : Calls Try.prog 63 #[.pointer (some ⟨lb, 0, none⟩)] w fun e w' => e = .returned (.int .i64 (roomN n sz at_ : Int)) ∧ w = w' := by
  have hb := h.bds
  have h3 := cell_at h.cells 3 rfl
  have hm := wmost at_ w h h.atB
  have b2 : n / 2 - at_ ≤ 2048 := by omega
  have b3 : sz - 16 ≤ 4096 := by omega
  have b4 : (n / 2 - at_) * (sz - 16) ≤ 2048 * 4096 := Nat.mul_le_mul b2 b3
  unfold roomN
  generalize hx : (n / 2 - at_) * (sz - 16) = x at *
  have e1 : max ((x : Int) - 32 - 4) 0 = ((x - 36 : Nat) : Int) := by omega
  have E1 := Lib.hid e1
  clear e1 hx b2 b3
  go_enter Try.func63, Try.ntmps63
  go_wp2_with fail
  refine hm.mono ?_
  rintro e w' ⟨rfl, rfl⟩
  go_wp2_with fail
  go_ret
  exact ⟨congrArg (fun z => Ending.returned (.int .i64 z)) E1.out, rfl⟩
end

/-! ### records -/
/-- A record: bytes that lie in a block that is none of F. -/
def RowV (w : World) (F : List Nat) (v : Value) (l : List UInt8) : Prop := ∃ A n c, v = .slice A n c ∧ RdB w A n c l ∧ ∀ a, A = some a → a.block ∉ F
/-- Records: a slice of them. -/
structure Recs (w : World) (F : List Nat) (A : Option Addr) (n c : Nat) (rs : List (List UInt8)) : Prop where
  rd : ∃ vs, Rd 1 w A n c vs ∧ ∀ (i : Nat) (h : i < rs.length), ∃ v, vs[i]? = some v ∧ RowV w F v rs[i]
  len : rs.length = n
  out : ∀ a, A = some a → a.block ∉ F
theorem RowV.keep {w w' : World} {F G : List Nat} {v : Value} {l : List UInt8} (h : RowV w F v l) (hc : Ch G w w') (hG : ∀ x ∈ G, x ∈ F) : RowV w' F v l := by
  obtain ⟨A, n, c, rfl, h1, h2⟩ := h
  exact ⟨A, n, c, rfl, h1.keep hc (fun a ha hg => h2 a ha (hG _ hg)), h2⟩
theorem RowV.sub {w : World} {F G : List Nat} {v : Value} {l : List UInt8} (h : RowV w F v l) (hG : ∀ x ∈ G, x ∈ F) : RowV w G v l := by
  obtain ⟨A, n, c, rfl, h1, h2⟩ := h
  exact ⟨A, n, c, rfl, h1, fun a ha hg => h2 a ha (hG _ hg)⟩
theorem Recs.keep {w w' : World} {F G : List Nat} {A : Option Addr} {n c : Nat} {rs : List (List UInt8)} (h : Recs w F A n c rs) (hc : Ch G w w') (hG : ∀ x ∈ G, x ∈ F) : Recs w' F A n c rs := by
  obtain ⟨⟨vs, h1, h2⟩, h3, h4⟩ := h
  exact ⟨⟨vs, h1.keep hc (fun a ha hg => h4 a ha (hG _ hg)), fun i hi => by
    obtain ⟨v, q1, q2⟩ := h2 i hi
    exact ⟨v, q1, q2.keep hc hG⟩⟩, h3, h4⟩
theorem Recs.nil {w w' : World} {F : List Nat} {A : Option Addr} {n c : Nat} {rs : List (List UInt8)} (h : Recs w F A n c rs) (hc : Ch [] w w') : Recs w' F A n c rs := h.keep hc (by simp)
theorem Recs.sub {w : World} {F G : List Nat} {A : Option Addr} {n c : Nat} {rs : List (List UInt8)} (h : Recs w F A n c rs) (hG : ∀ x ∈ G, x ∈ F) : Recs w G A n c rs := by
  obtain ⟨⟨vs, h1, h2⟩, h3, h4⟩ := h
  exact ⟨⟨vs, h1, fun i hi => by
    obtain ⟨v, q1, q2⟩ := h2 i hi
    exact ⟨v, q1, q2.sub hG⟩⟩, h3, fun a ha hg => h4 a ha (hG _ hg)⟩
theorem Recs.empty (w : World) (F : List Nat) : Recs w F none 0 0 [] := ⟨⟨[], Rd.empty 1 w none 0 (by omega), fun i hi => by simp at hi⟩, rfl, by simp⟩
/-- The i-th record. -/
theorem Recs.at0 {w : World} {F : List Nat} {A : Option Addr} {n c : Nat} {rs : List (List UInt8)} (h : Recs w F A n c rs) (i : Nat) (hi : i < rs.length) :
    ∃ b o A' n' c', A = some ⟨b, o, none⟩ ∧ w.cell? ⟨b, o + i, none⟩ = some (.slice A' n' c') ∧ RdB w A' n' c' rs[i] ∧ (∀ a, A' = some a → a.block ∉ F) ∧ n' = rs[i].length := by
  obtain ⟨⟨vs, h1, h2⟩, h3, h4⟩ := h
  obtain ⟨v, q1, A', n', c', rfl, q2, q3⟩ := h2 i hi
  obtain ⟨b, o, e, hc⟩ := h1.cells (by omega)
  exact ⟨b, o, A', n', c', e, hc i _ q1, q2, q3, q2.length.symm⟩

def longB (r : List UInt8) : Bool := decide (1048576 < r.length)
theorem wlong (A : Option Addr) (n c : Nat) (r : List UInt8) (w : World) (hr : r.length = n) : Calls Try.prog 106 #[.slice A n c] w fun e w' => e = .returned (.bool (longB r)) ∧ w = w' := by
  have e : decide ((n : Int) > 1048576) = longB r := by
    unfold longB
    rw [hr, decide_eq_decide]
    omega
  have E := Lib.hid e
  clear e
  rw [← E.out]
  go_enter Try.func106, Try.ntmps106
  go_wp2_with fail
  go_ret
  exact ⟨rfl, rfl⟩

set_option maxRecDepth 100000 in
theorem windex (A : Option Addr) (n c : Nat) (F : List Nat) (rs : List (List UInt8)) (w : World) (h : Recs w F A n c rs) (hn : n ≤ 1000000) :
    Calls Try.prog 114 #[.slice A n c, .func (.func 106) #[] #[]] w fun e w' => (∃ k : Int, e = .returned (.int .i64 k) ∧ decide (k ≥ 0) = rs.any longB) ∧ w = w' := by
  have hl := h.len
  have hcf : ∀ args W, (callFunc 106 args).run Try.prog W = .ok (.enter 106 args) W := fun args W => (enters_of Try.func106 (by kernel_rfl) rfl) args W
  go_enter Try.func114, Try.ntmps114
  go_wp2_with fail
  go_loop [8] (fun i => ∃ k : Nat, k ≤ n ∧ i = .int .i64 k ∧ (rs.take k).any longB = false) (fun i => n - (intOf i).toNat)
  case atStart => exact ⟨0, by omega, rfl, rfl⟩
  case round =>
    obtain ⟨k, hk, rfl, hno⟩ := hrel
    by_cases hlt : k < n
    · obtain ⟨b, o, A', n', c', rfl, hc, hrd, _, hn'⟩ := h.at0 k (by omega)
      cases hlg : longB (rs[k]'(by omega)) with
      | true =>
        have hany : rs.any longB = true := List.any_eq_true.2 ⟨_, List.getElem_mem _, hlg⟩
        have HA := Lib.hid hany
        have HN := Lib.hid hno
        have hlo := wlong A' n' c' (rs[k]'(by omega)) w hn'.symm
        rw [hlg] at hlo
        clear hany hno hlg hn'
        go_wp2_with fail
        refine hlo.mono ?_
        rintro e w' ⟨rfl, rfl⟩
        go_wp2_with fail
        go_ret
        exact ⟨⟨_, rfl, by rw [HA.out]; simp⟩, rfl⟩
      | false =>
        have hno2 : (rs.take (k + 1)).any longB = false := by
          rw [List.take_succ_eq_append_getElem (by omega), List.any_append, hno]
          simp [hlg]
        have HN := Lib.hid hno2
        have hlo := wlong A' n' c' (rs[k]'(by omega)) w hn'.symm
        rw [hlg] at hlo
        clear hno hno2 hlg hn'
        go_wp2_with fail
        refine hlo.mono ?_
        rintro e w' ⟨rfl, rfl⟩
        go_wp2_with fail
        go_round
        case rel => exact ⟨k + 1, by omega, by go_num, HN.out⟩
        case measure => simp [intOf]; omega
    · obtain rfl : k = n := by omega
      rw [List.take_of_length_le (by omega)] at hno
      have HN := Lib.hid hno
      clear hlt hk hno
      go_wp2_with fail
      go_ret
      exact ⟨⟨-1, rfl, by rw [HN.out]; rfl⟩, rfl⟩
theorem wcontains (A : Option Addr) (n c : Nat) (F : List Nat) (rs : List (List UInt8)) (w : World) (h : Recs w F A n c rs) (hn : n ≤ 1000000) :
    Calls Try.prog 105 #[.slice A n c, .func (.func 106) #[] #[]] w fun e w' => e = .returned (.bool (rs.any longB)) ∧ w = w' := by
  have hi := windex A n c F rs w h hn
  go_enter Try.func105, Try.ntmps105
  go_wp2_with fail
  refine hi.mono ?_
  rintro e w' ⟨⟨k, rfl, hk⟩, rfl⟩
  have HK := Lib.hid hk
  clear hk
  go_wp2_with fail
  go_ret
  exact ⟨congrArg (fun z => Ending.returned (.bool z)) HK.out, rfl⟩

/-- How many bytes records take; more than all count as that. -/
def bytesN (all : Nat) (rs : List (List UInt8)) : Nat := rs.foldl (fun a r => min (a + 4 + r.length) (all + 1)) 32
theorem bytesN_le (all : Nat) (rs : List (List UInt8)) (h : 31 ≤ all) : bytesN all rs ≤ all + 1 := by
  unfold bytesN
  have : ∀ (rs : List (List UInt8)) (a : Nat), a ≤ all + 1 → rs.foldl (fun a r => min (a + 4 + r.length) (all + 1)) a ≤ all + 1 := by
    intro rs
    induction rs with
    | nil => intro a ha; exact ha
    | cons r rs ih => intro a ha; rw [List.foldl_cons]; exact ih _ (Nat.min_le_right _ _)
  exact this rs 32 (by omega)
theorem bytesN_snoc (all : Nat) (rs : List (List UInt8)) (r : List UInt8) : bytesN all (rs ++ [r]) = min (bytesN all rs + 4 + r.length) (all + 1) := by simp [bytesN]

section
variable {lb um b g m n sz turn next at_ count : Nat} {X : List Nat} {R : Nat → List UInt8}
set_option maxRecDepth 100000 in
set_option maxHeartbeats 1000000 in
theorem wbytesN (A : Option Addr) (k c : Nat) (F : List Nat) (rs : List (List UInt8)) (w : World) (h : LogS w lb um b g m X n sz R turn next at_ count) (hr : Recs w F A k c rs) (hk : k ≤ 1000000) (hlen : ∀ r ∈ rs, r.length ≤ 1000000000000) :
    Calls Try.prog 107 #[.pointer (some ⟨lb, 0, none⟩), .slice A k c] w fun e w' => e = .returned (.int .i64 (bytesN (n * sz) rs : Int)) ∧ Ch [] w w' := by
  have hb := h.bds
  have hl := hr.len
  have h0 := cell_at h.cells 0 rfl
  have hs := live_sectors _ _ _ _ _ _ _ w.drew (h.live.nil (Ch.refl _ _).drew)
  have hz := live_size _ _ _ _ _ _ _ w.drew (h.live.nil (Ch.refl _ _).drew)
  have hall : n * sz ≤ 4096 * 4096 := Nat.mul_le_mul hb.2.1 hb.2.2.2
  have hall2 : 16 * 128 ≤ n * sz := Nat.mul_le_mul hb.1 hb.2.2.1
  have hw : IntKind.i64.wrap ((n : Int) * (sz : Int)) = ((n * sz : Nat) : Int) := by rw [← Int.natCast_mul, IntKind.wrap_i64]; omega
  have Hw := Lib.hid hw
  have Hs := Lib.hid hs
  have Hz := Lib.hid hz
  clear hs hz hw
  generalize hq : n * sz = q at *
  go_enter Try.func107, Try.ntmps107
  go_wp2_with fail
  refine dr_begin (by kernel_rfl) ?_
  refine dr_more (fun W => W.cell? ⟨lb, 0, none⟩ = some (.pointer (some ⟨b, 0, none⟩))) ?_
  have hT : True ∧ w.drew.cell? ⟨lb, 0, none⟩ = some (.pointer (some ⟨b, 0, none⟩)) := ⟨trivial, h0⟩
  refine dr_take 0 (some 9) (v := ?_) rfl rfl (by kernel_rfl) (by kernel_rfl) (by kernel_rfl) (fun _ _ _ h => h) rfl hT (fun W _ => ?_) ?_
  rotate_left
  · (go_simp; try with_reducible rfl)
  try simp only [Act.put, List.setIfInBounds_toArray, List.set_cons_zero, List.set_cons_succ]
  refine dr_take 1 (some 10) (v := ?_) rfl rfl (by kernel_rfl) (by kernel_rfl) (by kernel_rfl) (fun _ _ _ h => h) rfl hT (fun W _ => ?_) ?_
  rotate_left
  · (go_simp; try with_reducible rfl)
  try simp only [Act.put, List.setIfInBounds_toArray, List.set_cons_zero, List.set_cons_succ]
  refine dr_take 2 (some 11) (v := ?_) rfl rfl (by kernel_rfl) (by kernel_rfl) (by kernel_rfl) (fun _ _ _ h => h) rfl hT (fun W _ => ?_) ?_
  rotate_left
  · (go_simp; try with_reducible rfl)
  try simp only [Act.put, List.setIfInBounds_toArray, List.set_cons_zero, List.set_cons_succ]
  refine dr_take 3 (some 12) (v := ?_) rfl rfl (by kernel_rfl) (by kernel_rfl) (by kernel_rfl) (fun _ _ _ h => h) rfl hT (fun W hW => ?_) ?_
  rotate_left
  · (have h1 := hW.2; go_simp; try with_reducible rfl)
  try simp only [Act.put, List.setIfInBounds_toArray, List.set_cons_zero, List.set_cons_succ]
  refine dr_take 4 (some 13) (v := ?_) rfl rfl (by kernel_rfl) (by kernel_rfl) (by kernel_rfl) (fun _ _ _ h => h) rfl hT (fun W _ => ?_) ?_
  rotate_left
  · (go_simp; try with_reducible rfl)
  try simp only [Act.put, List.setIfInBounds_toArray, List.set_cons_zero, List.set_cons_succ]
  refine dr_take 5 (some 14) (v := ?_) rfl rfl (by kernel_rfl) (by kernel_rfl) (by kernel_rfl) (fun _ _ _ h => h) rfl hT (fun W _ => ?_) ?_
  rotate_left
  · (go_simp; try with_reducible rfl)
  try simp only [Act.put, List.setIfInBounds_toArray, List.set_cons_zero, List.set_cons_succ]
  refine dr_take 7 (some 16) (v := ?_) rfl rfl (by kernel_rfl) (by kernel_rfl) (by kernel_rfl) (fun _ _ _ h => h) rfl hT (fun W _ => ?_) ?_
  rotate_left
  · (go_simp; try with_reducible rfl)
  try simp only [Act.put, List.setIfInBounds_toArray, List.set_cons_zero, List.set_cons_succ]
  refine dr_take 8 (some 17) (v := ?_) rfl rfl (by kernel_rfl) (by kernel_rfl) (by kernel_rfl) (fun _ _ _ h => h) rfl hT (fun W _ => ?_) ?_
  rotate_left
  · (go_simp; try with_reducible rfl)
  try simp only [Act.put, List.setIfInBounds_toArray, List.set_cons_zero, List.set_cons_succ]
  refine dr_take 9 (some 18) (v := ?_) rfl rfl (by kernel_rfl) (by kernel_rfl) (by kernel_rfl) (fun _ _ _ h => h) rfl hT (fun W _ => ?_) ?_
  rotate_left
  · (go_simp; try with_reducible rfl)
  try simp only [Act.put, List.setIfInBounds_toArray, List.set_cons_zero, List.set_cons_succ]
  refine dr_take 10 (some 19) (v := ?_) rfl rfl (by kernel_rfl) (by kernel_rfl) (by kernel_rfl) (fun _ _ _ h => h) rfl hT (fun W hW => ?_) ?_
  rotate_left
  · (have h1 := hW.2; go_simp; try with_reducible rfl)
  try simp only [Act.put, List.setIfInBounds_toArray, List.set_cons_zero, List.set_cons_succ]
  refine dr_take 11 (some 20) (v := ?_) rfl rfl (by kernel_rfl) (by kernel_rfl) (by kernel_rfl) (fun _ _ _ h => h) rfl hT (fun W _ => ?_) ?_
  rotate_left
  · (go_simp; try with_reducible rfl)
  try simp only [Act.put, List.setIfInBounds_toArray, List.set_cons_zero, List.set_cons_succ]
  refine dr_take 12 (some 21) (v := ?_) rfl rfl (by kernel_rfl) (by kernel_rfl) (by kernel_rfl) (fun _ _ _ h => h) rfl hT (fun W _ => ?_) ?_
  rotate_left
  · (go_simp; try with_reducible rfl)
  try simp only [Act.put, List.setIfInBounds_toArray, List.set_cons_zero, List.set_cons_succ]
  refine dr_step 6 rfl (by kernel_rfl) rfl (fun K hK => ?_)
  go_simp
  refine Hs.out.mono ?_
  rintro e v ⟨rfl, rfl⟩
  refine hK.out _ _ hT ?_
  clear hK K
  try simp only [Act.put, List.setIfInBounds_toArray, List.set_cons_zero, List.set_cons_succ]
  refine dr_step 13 rfl (by kernel_rfl) rfl (fun K hK => ?_)
  go_simp
  refine Hz.out.mono ?_
  rintro e v ⟨rfl, rfl⟩
  refine hK.out _ _ hT ?_
  clear hK K
  try simp only [Act.put, List.setIfInBounds_toArray, List.set_cons_zero, List.set_cons_succ]
  refine dr_take 14 (some 23) (v := ?_) rfl rfl (by kernel_rfl) (by kernel_rfl) (by kernel_rfl) (fun _ _ _ h => h) rfl hT (fun W _ => ?_) ?_
  rotate_left
  · (go_simp; try with_reducible rfl)
  try simp only [Act.put, List.setIfInBounds_toArray, List.set_cons_zero, List.set_cons_succ]
  refine dr_take 15 (some 5) (v := ?_) rfl rfl (by kernel_rfl) (by kernel_rfl) (by kernel_rfl) (fun _ _ _ h => h) rfl hT (fun W _ => ?_) ?_
  rotate_left
  · (go_simp; try with_reducible rfl)
  try simp only [Act.put, List.setIfInBounds_toArray, List.set_cons_zero, List.set_cons_succ]
  refine dr_done (by kernel_rfl) ?_
  rw [Hw.out]
  have hrd := hr.nil (Ch.refl [] w).drew
  clear hr
  go_wp2_with fail
  go_loop [6, 26] (fun v i => ∃ j : Nat, j ≤ k ∧ i = .int .i64 j ∧ v = .int .i64 (bytesN q (rs.take j) : Int)) (fun _ i => k - (intOf i).toNat)
  case atStart => exact ⟨0, by omega, rfl, rfl⟩
  case round =>
    obtain ⟨j, hj, rfl, rfl⟩ := hrel
    by_cases hlt : j < k
    · obtain ⟨b', o, A', n', c', rfl, hc, _, _, hn'⟩ := hrd.at0 j (by omega)
      have hle := bytesN_le q (rs.take j) (by omega)
      have hlj := hlen _ (List.getElem_mem (show j < rs.length by omega))
      have hsn : bytesN q (rs.take (j + 1)) = min (bytesN q (rs.take j) + 4 + n') (q + 1) := by rw [List.take_succ_eq_append_getElem (by omega), bytesN_snoc, hn']
      rw [← hn'] at hlj
      have Hsn := Lib.hid hsn
      clear hsn hn'
      generalize bytesN q (rs.take j) = B at *
      have he : min ((B : Int) + 4 + (n' : Int)) ((q : Int) + 1) = ((min (B + 4 + n') (q + 1) : Nat) : Int) := by omega
      have He := Lib.hid he
      clear he
      go_wp2_with fail
      rw [He.out]
      go_round
      case rel => exact ⟨j + 1, by omega, by go_num, by rw [Hsn.out]⟩
      case measure => simp [intOf]; omega
    · obtain rfl : j = k := by omega
      rw [List.take_of_length_le (by omega)]
      clear hlt hj
      go_wp2_with fail
      go_ret
      exact ⟨rfl, (Ch.refl _ _).drew⟩
end

end Go.Proofs.Ytbkncfedahifkaa
