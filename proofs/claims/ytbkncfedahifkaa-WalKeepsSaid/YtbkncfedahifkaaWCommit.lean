/-
  Package wal: write, Commit, Reset.
-/
import Derived.Test.YtbkncfedahifkaaWLay
set_option linter.unusedVariables false
set_option linter.unusedSimpArgs false
namespace Go.Proofs.Ytbkncfedahifkaa
open Go.RowKit Go.Maps

theorem secsN_le (S k m : Nat) (hS : 0 < S) (h : k ≤ m * S) : secsN S k ≤ m := by
  have h1 := Nat.div_add_mod k S
  have h2 : k / S ≤ m := Nat.div_le_of_le_mul (by rwa [Nat.mul_comm])
  unfold secsN
  rcases Nat.lt_or_ge (k / S) m with h3 | h3
  · omega
  · have h4 : k / S = m := by omega
    rw [h4, Nat.mul_comm] at h1
    omega
theorem bodyB_cons (r : List UInt8) (rs : List (List UInt8)) : (bodyB (r :: rs)).length = 4 + r.length + (bodyB rs).length := by
  simp [bodyB, beN_length]
  omega
theorem bytesN_eq (all : Nat) (rs : List (List UInt8)) (h : 31 ≤ all) : bytesN all rs = min (32 + (bodyB rs).length) (all + 1) := by
  unfold bytesN
  have : ∀ (rs : List (List UInt8)) (a c : Nat), a = min c (all + 1) → rs.foldl (fun a r => min (a + 4 + r.length) (all + 1)) a = min (c + (bodyB rs).length) (all + 1) := by
    intro rs
    induction rs with
    | nil => intro a c ha; simpa [bodyB] using ha
    | cons r rs ih =>
      intro a c ha
      rw [List.foldl_cons, ih _ (c + 4 + r.length) (by omega), bodyB_cons]
      congr 1
      omega
  exact this rs 32 32 (by omega)
theorem frameB_length (turn next : Nat) (rs : List (List UInt8)) : (frameB turn next rs).length = 32 + (bodyB rs).length := by
  unfold frameB
  simp [signB, beN_length]
  omega

section
variable {lb um b g m n sz turn next at_ count : Nat} {X : List Nat} {R : Nat → List UInt8}
theorem LogS.room {w : World} (h : LogS w lb um b g m X n sz R turn next at_ count) (a : Nat) : (n / 2 - a) * (sz - 16) ≤ n * sz := Nat.mul_le_mul (by omega) (by omega)

set_option maxRecDepth 100000 in
theorem write_long (t N a : Nat) (A : Option Addr) (k c : Nat) (F : List Nat) (rs : List (List UInt8)) (w : World) (h : LogS w lb um b g m X n sz R turn next at_ count) (hr : Recs w F A k c rs) (hk : k ≤ 1000000) (hl : rs.any longB = true) :
    Calls Try.prog 92 #[.pointer (some ⟨lb, 0, none⟩), .int .u64 (t : Int), .int .u64 (N : Int), .int .i64 (a : Int), .slice A k c] w fun e w' => e = .returned (.tuple #[.int .i64 0, .int .i64 42]) ∧ w = w' := by
  have hc := wcontains A k c F rs w hr hk
  rw [hl] at hc
  clear hl
  go_enter Try.func92, Try.ntmps92
  go_wp2_with fail
  refine hc.mono ?_
  rintro e w' ⟨rfl, rfl⟩
  go_wp2_with fail
  go_ret2
  exact ⟨rfl, rfl⟩
set_option maxRecDepth 100000 in
theorem write_full (t N a : Nat) (A : Option Addr) (k c : Nat) (F : List Nat) (rs : List (List UInt8)) (w : World) (h : LogS w lb um b g m X n sz R turn next at_ count) (hr : Recs w F A k c rs) (hk : k ≤ 1000000) (hl : rs.any longB = false) (hlen : ∀ r ∈ rs, r.length ≤ 1000000000000)
    (ha : a ≤ n / 2) (hf : (n / 2 - a) * (sz - 16) < 32 + (bodyB rs).length) :
    Calls Try.prog 92 #[.pointer (some ⟨lb, 0, none⟩), .int .u64 (t : Int), .int .u64 (N : Int), .int .i64 (a : Int), .slice A k c] w fun e w' => e = .returned (.tuple #[.int .i64 0, .int .i64 40]) ∧ Ch [] w w' := by
  have hc := wcontains A k c F rs w hr hk
  have hb := h.bds
  have hall := h.room a
  have hall2 : 16 * 128 ≤ n * sz := Nat.mul_le_mul hb.1 hb.2.2.1
  have hby := wbytesN A k c F rs w h hr hk hlen
  have hlt : (n / 2 - a) * (sz - 16) < bytesN (n * sz) rs := by rw [bytesN_eq _ _ (by omega)]; omega
  have ht : decide (((bytesN (n * sz) rs : Nat) : Int) > (((n / 2 - a) * (sz - 16) : Nat) : Int)) = true := by simp; omega
  have ht2 : decide ((n / 2 - a) * (sz - 16) < bytesN (n * sz) rs) = true := by simp; omega
  have mkM := fun W (hW : Ch [] w W) => wmost a W (h.nil hW) ha
  rw [hl] at hc
  clear hl hall hall2 hf
  generalize bytesN (n * sz) rs = Y at *
  generalize (n / 2 - a) * (sz - 16) = Z at *
  have HM := Lib.hid mkM
  clear mkM
  go_enter Try.func92, Try.ntmps92
  go_wp2_with fail
  refine hc.mono ?_
  rintro e w' ⟨rfl, rfl⟩
  go_wp2_with fail
  refine hby.mono ?_
  rintro e w1 ⟨rfl, hc1⟩
  go_wp2_with fail
  refine (HM.out w1 hc1).mono ?_
  rintro e w' ⟨rfl, rfl⟩
  go_wp2_with fail
  go_ret2
  exact ⟨rfl, hc1⟩
set_option maxRecDepth 100000 in
set_option maxHeartbeats 1000000 in
theorem write_ok (t N a : Nat) (A : Option Addr) (k c : Nat) (F : List Nat) (rs : List (List UInt8)) (w : World) (h : LogS w lb um b g m X n sz R turn next at_ count) (hX : ∀ x ∈ X, x < w.heap.size) (hr : Recs w F A k c rs) (hk : k ≤ 1000000) (hl : rs.any longB = false) (hlen : ∀ r ∈ rs, r.length ≤ 1000000000000)
    (ht : t < 18446744073709551616) (hN : N < 9223372036854775808) (ha : a ≤ n / 2) (hf : 32 + (bodyB rs).length ≤ (n / 2 - a) * (sz - 16)) :
    Calls Try.prog 92 #[.pointer (some ⟨lb, 0, none⟩), .int .u64 (t : Int), .int .u64 (N : Int), .int .i64 (a : Int), .slice A k c] w fun e w' => e = .returned (.tuple #[.int .i64 ((a + secsN (sz - 16) (32 + (bodyB rs).length) : Nat) : Int), .int .i64 0]) ∧
      LogS w' lb um b g m X n sz (layR R (sz - 16) t N (t % 2 * (n / 2) + a) (secsN (sz - 16) (32 + (bodyB rs).length)) (frameB t N rs) 0) turn next at_ count ∧ a + secsN (sz - 16) (32 + (bodyB rs).length) ≤ n / 2 ∧ Ch [b, g, m, um] w w' := by
  have hc := wcontains A k c F rs w hr hk
  have hb := h.bds
  have hall := h.room a
  have hall2 : 16 * 128 ≤ n * sz := Nat.mul_le_mul hb.1 hb.2.2.1
  have hall3 : (n / 2 - a) * (sz - 16) ≤ 2048 * 4096 := Nat.mul_le_mul (by omega) (by omega)
  have hby := wbytesN A k c F rs w h hr hk hlen
  have hbe : bytesN (n * sz) rs = 32 + (bodyB rs).length := by rw [bytesN_eq _ _ (by omega)]; omega
  rw [hbe] at hby
  have hsec := secsN_le (sz - 16) _ _ (by omega) hf
  have hfit : a + secsN (sz - 16) (32 + (bodyB rs).length) ≤ n / 2 := by omega
  have hsec2 : secsN (sz - 16) (32 + (bodyB rs).length) ≤ 2048 := by omega
  have hfl := frameB_length t N rs
  have hgt : decide (((32 + (bodyB rs).length : Nat) : Int) > (((n / 2 - a) * (sz - 16) : Nat) : Int)) = false := by simp; omega
  have hgt2 : decide ((n / 2 - a) * (sz - 16) < 32 + (bodyB rs).length) = false := by simp; omega
  have mkM := fun W (hW : Ch [] w W) => wmost a W (h.nil hW) ha
  have mkS := fun W (hW : Ch [] w W) => wsectors (32 + (bodyB rs).length) W (h.nil hW) (by omega)
  have mkF := fun W (hW : Ch [] w W) => frame_any t N A k c F rs W (hr.nil hW) hk ht (by omega) (by omega)
  have mkL : ∀ W, Ch [] w W → ∀ (A2 : Option Addr) (c2 : Nat), RdB W A2 (32 + (bodyB rs).length) c2 (frameB t N rs) → (∀ ad, A2 = some ad → ad.block ∉ [b, g, m, um]) → _ := fun W hW A2 c2 h1 h2 =>
    lay_any W lb um b g m n sz turn next at_ count X R (h.nil hW) (fun x hx => Nat.lt_of_lt_of_le (hX x hx) hW.size) t N a A2 (32 + (bodyB rs).length) c2 (frameB t N rs) h1 h2 ht hN (by omega) (by omega) hfit
  have hlt := h.live.lts
  have hum := h.map.lt
  have HM := Lib.hid mkM
  have HS := Lib.hid mkS
  have HF := Lib.hid mkF
  have HL := Lib.hid mkL
  have Hfl := Lib.hid hfl
  have Hfit := Lib.hid hfit
  rw [hl] at hc
  have hYb : 32 + (bodyB rs).length ≤ 2048 * 4096 := by omega
  clear hl hall hall2 hf mkM mkS mkF mkL hbe hfl hfit hsec hall3 hlen
  generalize hY : 32 + (bodyB rs).length = Y at *
  generalize hZ : (n / 2 - a) * (sz - 16) = Z at *
  generalize hV : secsN (sz - 16) Y = V at *
  have HV := Lib.hid hV
  have HY := Lib.hid hY
  clear hZ hV hY
  go_enter Try.func92, Try.ntmps92
  go_wp2_with fail
  refine hc.mono ?_
  rintro e w' ⟨rfl, rfl⟩
  go_wp2_with fail
  refine hby.mono ?_
  rintro e w1 ⟨rfl, hc1⟩
  clear hby
  go_wp2_with fail
  refine (HM.out w1 hc1).mono ?_
  rintro e w' ⟨rfl, rfl⟩
  go_wp2_with fail
  refine (HS.out w1 hc1).mono ?_
  rintro e w2 ⟨rfl, hc2⟩
  have hcw2 := hc1.trans hc2 (by simp)
  have hsum : (a : Int) + (V : Int) = ((a + V : Nat) : Int) := by omega
  have HSUM := Lib.hid hsum
  clear hsum
  go_wp2_with fail
  refine (HF.out w2 hcw2).mono ?_
  rintro e w3 ⟨v3, rfl, ho3, hc3⟩
  obtain ⟨A3, c3, rfl, hrow3⟩ := ho3
  have hcw3 := hcw2.trans hc3 (by simp)
  have hA3 : ∀ ad, A3 = some ad → ad.block ∉ [b, g, m, um] := by
    intro ad had hm
    have h1 : w2.heap.size ≤ ad.block := own_ge hrow3 ad.block (by rw [had]; rfl)
    have h2 := hcw2.size
    simp only [List.mem_cons, List.not_mem_nil, or_false] at hm
    omega
  have hrd3 := own_rd hrow3
  rw [Hfl.out] at hrd3
  rw [Hfl.out]
  clear hrow3
  go_wp2_with fail
  refine (HL.out w3 hcw3 A3 c3 hrd3 hA3).mono ?_
  rintro e w4 ⟨rfl, h4, hc4⟩
  go_wp2_with fail
  go_ret2
  refine ⟨congrArg (fun z => Ending.returned (.tuple #[.int .i64 z, .int .i64 0])) HSUM.out, ?_, Hfit.out, (hcw3.mono (G := [b, g, m, um]) (by simp)).trans hc4 (by intro y hy; exact .inl hy)⟩
  have := HY.out
  exact h4

/-- What a commit of records answers. -/
def commitE (n sz a : Nat) (rs : List (List UInt8)) : Int := if rs.any longB then 42 else if 32 + (bodyB rs).length ≤ (n / 2 - a) * (sz - 16) then 0 else 40
theorem commitE_zero {n sz a : Nat} {rs : List (List UInt8)} (h : commitE n sz a rs = 0) : rs.any longB = false ∧ 32 + (bodyB rs).length ≤ (n / 2 - a) * (sz - 16) := by
  unfold commitE at h
  cases hl : rs.any longB with
  | true => rw [hl] at h; simp at h
  | false =>
    rw [hl] at h
    refine ⟨rfl, ?_⟩
    by_cases h2 : 32 + (bodyB rs).length ≤ (n / 2 - a) * (sz - 16)
    · exact h2
    · simp [h2] at h
theorem write_bad (t N a : Nat) (A : Option Addr) (k c : Nat) (F : List Nat) (rs : List (List UInt8)) (w : World) (h : LogS w lb um b g m X n sz R turn next at_ count) (hr : Recs w F A k c rs) (hk : k ≤ 1000000) (hlen : ∀ r ∈ rs, r.length ≤ 1000000000000)
    (ha : a ≤ n / 2) (hf : commitE n sz a rs ≠ 0) :
    Calls Try.prog 92 #[.pointer (some ⟨lb, 0, none⟩), .int .u64 (t : Int), .int .u64 (N : Int), .int .i64 (a : Int), .slice A k c] w fun e w' => e = .returned (.tuple #[.int .i64 0, .int .i64 (commitE n sz a rs)]) ∧ Ch [] w w' := by
  unfold commitE at hf ⊢
  cases hl : rs.any longB with
  | true =>
    refine (write_long t N a A k c F rs w h hr hk hl).mono ?_
    rintro e w' ⟨rfl, rfl⟩
    exact ⟨rfl, Ch.refl _ _⟩
  | false =>
    rw [hl] at hf
    by_cases h2 : 32 + (bodyB rs).length ≤ (n / 2 - a) * (sz - 16)
    · simp [h2] at hf
    · simp only [h2, if_false]
      exact write_full t N a A k c F rs w h hr hk hl hlen ha (by omega)

theorem LogS.re {w w' : World} (h : LogS w lb um b g m X n sz R turn next at_ count) (hc : Ch [lb] w w') {turn' next' at' count' : Nat}
    (hcell : w'.heap[lb]? = some (.cells #[.pointer (some ⟨b, 0, none⟩), .int .u64 (turn' : Int), .int .u64 (next' : Int), .int .i64 (at' : Int), .int .i64 (count' : Int), .map (some um)] 124 (0, 0)))
    (h1 : turn' < 18446744073709551616) (h2 : next' < 18446744073709551616) (h3 : at' ≤ n / 2) (h4 : count' < 4611686018427387904) : LogS w' lb um b g m X n sz R turn' next' at' count' :=
  { h with
    cells := hcell
    map := by
      have hlu := h.lu
      obtain ⟨es, clock, hbk, F, hs, hD⟩ := h.map
      exact ⟨es, clock, hc.at_ hbk (by simp; omega), F, hs, hD⟩
    live := h.live.keep (hc.mono (by simp))
    turnB := h1
    nextB := h2
    atB := h3
    countB := h4 }

theorem wcommit_bad (A : Option Addr) (k c : Nat) (F : List Nat) (rs : List (List UInt8)) (w : World) (h : LogS w lb um b g m X n sz R turn next at_ count) (hr : Recs w F A k c rs) (hk : k ≤ 1000000) (hlen : ∀ r ∈ rs, r.length ≤ 1000000000000) (hf : commitE n sz at_ rs ≠ 0) :
    Calls Try.prog 57 #[.pointer (some ⟨lb, 0, none⟩), .slice A k c] w fun e w' => e = .returned (.int .i64 (commitE n sz at_ rs)) ∧ Ch [] w w' := by
  have hwr := write_bad turn next at_ A k c F rs w.drew (h.nil (Ch.refl _ _).drew) (hr.nil (Ch.refl _ _).drew) hk hlen h.atB hf
  have h1 := cell_at h.cells 1 rfl
  have h2 := cell_at h.cells 2 rfl
  have h3 := cell_at h.cells 3 rfl
  have hne : (commitE n sz at_ rs != 0) = true := by simpa using hf
  generalize commitE n sz at_ rs = E at *
  have HW := Lib.hid hwr
  clear hwr hf
  go_enter Try.func57, Try.ntmps57
  go_wp2_with fail
  refine dr_begin (by kernel_rfl) ?_
  refine dr_more (fun W => W.cell? ⟨lb, 1, none⟩ = some (.int .u64 (turn : Int)) ∧ W.cell? ⟨lb, 2, none⟩ = some (.int .u64 (next : Int)) ∧ W.cell? ⟨lb, 3, none⟩ = some (.int .i64 (at_ : Int))) ?_
  have hT : True ∧ (w.drew.cell? ⟨lb, 1, none⟩ = some (.int .u64 (turn : Int)) ∧ w.drew.cell? ⟨lb, 2, none⟩ = some (.int .u64 (next : Int)) ∧ w.drew.cell? ⟨lb, 3, none⟩ = some (.int .i64 (at_ : Int))) := ⟨trivial, h1, h2, h3⟩
  refine dr_take 0 (some 8) (v := ?_) rfl rfl (by kernel_rfl) (by kernel_rfl) (by kernel_rfl) (fun _ _ _ h => h) rfl hT (fun W _ => ?_) ?_
  rotate_left
  · (go_simp; try with_reducible rfl)
  try simp only [Act.put, List.setIfInBounds_toArray, List.set_cons_zero, List.set_cons_succ]
  refine dr_take 1 (some 9) (v := ?_) rfl rfl (by kernel_rfl) (by kernel_rfl) (by kernel_rfl) (fun _ _ _ h => h) rfl hT (fun W _ => ?_) ?_
  rotate_left
  · (go_simp; try with_reducible rfl)
  try simp only [Act.put, List.setIfInBounds_toArray, List.set_cons_zero, List.set_cons_succ]
  refine dr_take 2 (some 10) (v := ?_) rfl rfl (by kernel_rfl) (by kernel_rfl) (by kernel_rfl) (fun _ _ _ h => h) rfl hT (fun W _ => ?_) ?_
  rotate_left
  · (go_simp; try with_reducible rfl)
  try simp only [Act.put, List.setIfInBounds_toArray, List.set_cons_zero, List.set_cons_succ]
  refine dr_take 3 (some 11) (v := ?_) rfl rfl (by kernel_rfl) (by kernel_rfl) (by kernel_rfl) (fun _ _ _ h => h) rfl hT (fun W _ => ?_) ?_
  rotate_left
  · (go_simp; try with_reducible rfl)
  try simp only [Act.put, List.setIfInBounds_toArray, List.set_cons_zero, List.set_cons_succ]
  refine dr_take 4 (some 12) (v := ?_) rfl rfl (by kernel_rfl) (by kernel_rfl) (by kernel_rfl) (fun _ _ _ h => h) rfl hT (fun W hW => ?_) ?_
  rotate_left
  · (obtain ⟨-, h1, h2, h3⟩ := hW; go_simp; try with_reducible rfl)
  try simp only [Act.put, List.setIfInBounds_toArray, List.set_cons_zero, List.set_cons_succ]
  refine dr_take 5 (some 13) (v := ?_) rfl rfl (by kernel_rfl) (by kernel_rfl) (by kernel_rfl) (fun _ _ _ h => h) rfl hT (fun W _ => ?_) ?_
  rotate_left
  · (go_simp; try with_reducible rfl)
  try simp only [Act.put, List.setIfInBounds_toArray, List.set_cons_zero, List.set_cons_succ]
  refine dr_take 6 (some 14) (v := ?_) rfl rfl (by kernel_rfl) (by kernel_rfl) (by kernel_rfl) (fun _ _ _ h => h) rfl hT (fun W _ => ?_) ?_
  rotate_left
  · (go_simp; try with_reducible rfl)
  try simp only [Act.put, List.setIfInBounds_toArray, List.set_cons_zero, List.set_cons_succ]
  refine dr_take 7 (some 15) (v := ?_) rfl rfl (by kernel_rfl) (by kernel_rfl) (by kernel_rfl) (fun _ _ _ h => h) rfl hT (fun W _ => ?_) ?_
  rotate_left
  · (go_simp; try with_reducible rfl)
  try simp only [Act.put, List.setIfInBounds_toArray, List.set_cons_zero, List.set_cons_succ]
  refine dr_take 8 (some 16) (v := ?_) rfl rfl (by kernel_rfl) (by kernel_rfl) (by kernel_rfl) (fun _ _ _ h => h) rfl hT (fun W hW => ?_) ?_
  rotate_left
  · (obtain ⟨-, h1, h2, h3⟩ := hW; go_simp; try with_reducible rfl)
  try simp only [Act.put, List.setIfInBounds_toArray, List.set_cons_zero, List.set_cons_succ]
  refine dr_take 9 (some 17) (v := ?_) rfl rfl (by kernel_rfl) (by kernel_rfl) (by kernel_rfl) (fun _ _ _ h => h) rfl hT (fun W _ => ?_) ?_
  rotate_left
  · (go_simp; try with_reducible rfl)
  try simp only [Act.put, List.setIfInBounds_toArray, List.set_cons_zero, List.set_cons_succ]
  refine dr_take 10 (some 18) (v := ?_) rfl rfl (by kernel_rfl) (by kernel_rfl) (by kernel_rfl) (fun _ _ _ h => h) rfl hT (fun W _ => ?_) ?_
  rotate_left
  · (go_simp; try with_reducible rfl)
  try simp only [Act.put, List.setIfInBounds_toArray, List.set_cons_zero, List.set_cons_succ]
  refine dr_take 11 (some 19) (v := ?_) rfl rfl (by kernel_rfl) (by kernel_rfl) (by kernel_rfl) (fun _ _ _ h => h) rfl hT (fun W _ => ?_) ?_
  rotate_left
  · (go_simp; try with_reducible rfl)
  try simp only [Act.put, List.setIfInBounds_toArray, List.set_cons_zero, List.set_cons_succ]
  refine dr_take 12 (some 20) (v := ?_) rfl rfl (by kernel_rfl) (by kernel_rfl) (by kernel_rfl) (fun _ _ _ h => h) rfl hT (fun W hW => ?_) ?_
  rotate_left
  · (obtain ⟨-, h1, h2, h3⟩ := hW; go_simp; try with_reducible rfl)
  try simp only [Act.put, List.setIfInBounds_toArray, List.set_cons_zero, List.set_cons_succ]
  refine dr_take 13 (some 21) (v := ?_) rfl rfl (by kernel_rfl) (by kernel_rfl) (by kernel_rfl) (fun _ _ _ h => h) rfl hT (fun W _ => ?_) ?_
  rotate_left
  · (go_simp; try with_reducible rfl)
  try simp only [Act.put, List.setIfInBounds_toArray, List.set_cons_zero, List.set_cons_succ]
  refine dr_step 14 rfl (by kernel_rfl) rfl (fun K hK => ?_)
  go_simp
  refine HW.out.mono ?_
  rintro e w2 ⟨rfl, hc2⟩
  have hT : True ∧ (w2.cell? ⟨lb, 1, none⟩ = some (.int .u64 (turn : Int)) ∧ w2.cell? ⟨lb, 2, none⟩ = some (.int .u64 (next : Int)) ∧ w2.cell? ⟨lb, 3, none⟩ = some (.int .i64 (at_ : Int))) := ⟨trivial, hc2.cell h1 (by simp), hc2.cell h2 (by simp), hc2.cell h3 (by simp)⟩
  refine hK.out _ _ hT ?_
  clear hK K
  try simp only [Act.put, List.setIfInBounds_toArray, List.set_cons_zero, List.set_cons_succ]
  refine dr_take 15 (some 7) (v := ?_) rfl rfl (by kernel_rfl) (by kernel_rfl) (by kernel_rfl) (fun _ _ _ h => h) rfl hT (fun W _ => ?_) ?_
  rotate_left
  · (go_simp; try with_reducible rfl)
  try simp only [Act.put, List.setIfInBounds_toArray, List.set_cons_zero, List.set_cons_succ]
  refine dr_take 16 (some 23) (v := ?_) rfl rfl (by kernel_rfl) (by kernel_rfl) (by kernel_rfl) (fun _ _ _ h => h) rfl hT (fun W _ => ?_) ?_
  rotate_left
  · (go_simp; try with_reducible rfl)
  try simp only [Act.put, List.setIfInBounds_toArray, List.set_cons_zero, List.set_cons_succ]
  refine dr_take 17 (some 24) (v := ?_) rfl rfl (by kernel_rfl) (by kernel_rfl) (by kernel_rfl) (fun _ _ _ h => h) rfl hT (fun W _ => ?_) ?_
  rotate_left
  · (go_simp; try with_reducible rfl)
  try simp only [Act.put, List.setIfInBounds_toArray, List.set_cons_zero, List.set_cons_succ]
  refine dr_take 18 (some 5) (v := ?_) rfl rfl (by kernel_rfl) (by kernel_rfl) (by kernel_rfl) (fun _ _ _ h => h) rfl hT (fun W _ => ?_) ?_
  rotate_left
  · (go_simp; try with_reducible rfl)
  try simp only [Act.put, List.setIfInBounds_toArray, List.set_cons_zero, List.set_cons_succ]
  refine dr_take 19 (some 6) (v := ?_) rfl rfl (by kernel_rfl) (by kernel_rfl) (by kernel_rfl) (fun _ _ _ h => h) rfl hT (fun W _ => ?_) ?_
  rotate_left
  · (go_simp; try with_reducible rfl)
  try simp only [Act.put, List.setIfInBounds_toArray, List.set_cons_zero, List.set_cons_succ]
  refine dr_done (by kernel_rfl) ?_
  go_wp2_with fail
  go_ret
  exact ⟨rfl, (Ch.refl _ _).drew.trans hc2 (by simp)⟩

set_option maxRecDepth 100000 in
set_option maxHeartbeats 1000000 in
theorem wcommit_ok (A : Option Addr) (k c : Nat) (F : List Nat) (rs : List (List UInt8)) (w : World) (h : LogS w lb um b g m X n sz R turn next at_ count) (hX : ∀ x ∈ X, x < w.heap.size) (hr : Recs w F A k c rs) (hk : k ≤ 1000000) (hlen : ∀ r ∈ rs, r.length ≤ 1000000000000) (hf : commitE n sz at_ rs = 0)
    (hN : next < 4611686018427387904) (hC : count < 4000000000000000000) :
    Calls Try.prog 57 #[.pointer (some ⟨lb, 0, none⟩), .slice A k c] w fun e w' => e = .returned (.int .i64 0) ∧
      LogS w' lb um b g m X n sz (layR R (sz - 16) turn next (turn % 2 * (n / 2) + at_) (secsN (sz - 16) (32 + (bodyB rs).length)) (frameB turn next rs) 0) turn (next + 1) (at_ + secsN (sz - 16) (32 + (bodyB rs).length)) (count + rs.length) ∧ Ch [lb, b, g, m, um] w w' := by
  obtain ⟨hf1, hf2⟩ := commitE_zero hf
  have hwr := write_ok turn next at_ A k c F rs w.drew (h.nil (Ch.refl _ _).drew) hX (hr.nil (Ch.refl _ _).drew) hk hf1 hlen h.turnB (by omega) h.atB hf2
  have hrl := hr.len
  have h1 := cell_at h.cells 1 rfl
  have h2 := cell_at h.cells 2 rfl
  have h3 := cell_at h.cells 3 rfl
  have hlu := h.lu
  have hout := h.live.outs
  simp only [List.mem_cons, not_or] at hout
  generalize hVe : secsN (sz - 16) (32 + (bodyB rs).length) = V at *
  generalize hRe : layR R (sz - 16) turn next (turn % 2 * (n / 2) + at_) V (frameB turn next rs) 0 = R2 at *
  have HW := Lib.hid hwr
  clear hwr hf hf1 hf2 hVe hRe
  go_enter Try.func57, Try.ntmps57
  go_wp2_with fail
  refine dr_begin (by kernel_rfl) ?_
  refine dr_more (fun W => W.cell? ⟨lb, 1, none⟩ = some (.int .u64 (turn : Int)) ∧ W.cell? ⟨lb, 2, none⟩ = some (.int .u64 (next : Int)) ∧ W.cell? ⟨lb, 3, none⟩ = some (.int .i64 (at_ : Int))) ?_
  have hT : True ∧ (w.drew.cell? ⟨lb, 1, none⟩ = some (.int .u64 (turn : Int)) ∧ w.drew.cell? ⟨lb, 2, none⟩ = some (.int .u64 (next : Int)) ∧ w.drew.cell? ⟨lb, 3, none⟩ = some (.int .i64 (at_ : Int))) := ⟨trivial, h1, h2, h3⟩
  refine dr_take 0 (some 8) (v := ?_) rfl rfl (by kernel_rfl) (by kernel_rfl) (by kernel_rfl) (fun _ _ _ h => h) rfl hT (fun W _ => ?_) ?_
  rotate_left
  · (go_simp; try with_reducible rfl)
  try simp only [Act.put, List.setIfInBounds_toArray, List.set_cons_zero, List.set_cons_succ]
  refine dr_take 1 (some 9) (v := ?_) rfl rfl (by kernel_rfl) (by kernel_rfl) (by kernel_rfl) (fun _ _ _ h => h) rfl hT (fun W _ => ?_) ?_
  rotate_left
  · (go_simp; try with_reducible rfl)
  try simp only [Act.put, List.setIfInBounds_toArray, List.set_cons_zero, List.set_cons_succ]
  refine dr_take 2 (some 10) (v := ?_) rfl rfl (by kernel_rfl) (by kernel_rfl) (by kernel_rfl) (fun _ _ _ h => h) rfl hT (fun W _ => ?_) ?_
  rotate_left
  · (go_simp; try with_reducible rfl)
  try simp only [Act.put, List.setIfInBounds_toArray, List.set_cons_zero, List.set_cons_succ]
  refine dr_take 3 (some 11) (v := ?_) rfl rfl (by kernel_rfl) (by kernel_rfl) (by kernel_rfl) (fun _ _ _ h => h) rfl hT (fun W _ => ?_) ?_
  rotate_left
  · (go_simp; try with_reducible rfl)
  try simp only [Act.put, List.setIfInBounds_toArray, List.set_cons_zero, List.set_cons_succ]
  refine dr_take 4 (some 12) (v := ?_) rfl rfl (by kernel_rfl) (by kernel_rfl) (by kernel_rfl) (fun _ _ _ h => h) rfl hT (fun W hW => ?_) ?_
  rotate_left
  · (obtain ⟨-, h1, h2, h3⟩ := hW; go_simp; try with_reducible rfl)
  try simp only [Act.put, List.setIfInBounds_toArray, List.set_cons_zero, List.set_cons_succ]
  refine dr_take 5 (some 13) (v := ?_) rfl rfl (by kernel_rfl) (by kernel_rfl) (by kernel_rfl) (fun _ _ _ h => h) rfl hT (fun W _ => ?_) ?_
  rotate_left
  · (go_simp; try with_reducible rfl)
  try simp only [Act.put, List.setIfInBounds_toArray, List.set_cons_zero, List.set_cons_succ]
  refine dr_take 6 (some 14) (v := ?_) rfl rfl (by kernel_rfl) (by kernel_rfl) (by kernel_rfl) (fun _ _ _ h => h) rfl hT (fun W _ => ?_) ?_
  rotate_left
  · (go_simp; try with_reducible rfl)
  try simp only [Act.put, List.setIfInBounds_toArray, List.set_cons_zero, List.set_cons_succ]
  refine dr_take 7 (some 15) (v := ?_) rfl rfl (by kernel_rfl) (by kernel_rfl) (by kernel_rfl) (fun _ _ _ h => h) rfl hT (fun W _ => ?_) ?_
  rotate_left
  · (go_simp; try with_reducible rfl)
  try simp only [Act.put, List.setIfInBounds_toArray, List.set_cons_zero, List.set_cons_succ]
  refine dr_take 8 (some 16) (v := ?_) rfl rfl (by kernel_rfl) (by kernel_rfl) (by kernel_rfl) (fun _ _ _ h => h) rfl hT (fun W hW => ?_) ?_
  rotate_left
  · (obtain ⟨-, h1, h2, h3⟩ := hW; go_simp; try with_reducible rfl)
  try simp only [Act.put, List.setIfInBounds_toArray, List.set_cons_zero, List.set_cons_succ]
  refine dr_take 9 (some 17) (v := ?_) rfl rfl (by kernel_rfl) (by kernel_rfl) (by kernel_rfl) (fun _ _ _ h => h) rfl hT (fun W _ => ?_) ?_
  rotate_left
  · (go_simp; try with_reducible rfl)
  try simp only [Act.put, List.setIfInBounds_toArray, List.set_cons_zero, List.set_cons_succ]
  refine dr_take 10 (some 18) (v := ?_) rfl rfl (by kernel_rfl) (by kernel_rfl) (by kernel_rfl) (fun _ _ _ h => h) rfl hT (fun W _ => ?_) ?_
  rotate_left
  · (go_simp; try with_reducible rfl)
  try simp only [Act.put, List.setIfInBounds_toArray, List.set_cons_zero, List.set_cons_succ]
  refine dr_take 11 (some 19) (v := ?_) rfl rfl (by kernel_rfl) (by kernel_rfl) (by kernel_rfl) (fun _ _ _ h => h) rfl hT (fun W _ => ?_) ?_
  rotate_left
  · (go_simp; try with_reducible rfl)
  try simp only [Act.put, List.setIfInBounds_toArray, List.set_cons_zero, List.set_cons_succ]
  refine dr_take 12 (some 20) (v := ?_) rfl rfl (by kernel_rfl) (by kernel_rfl) (by kernel_rfl) (fun _ _ _ h => h) rfl hT (fun W hW => ?_) ?_
  rotate_left
  · (obtain ⟨-, h1, h2, h3⟩ := hW; go_simp; try with_reducible rfl)
  try simp only [Act.put, List.setIfInBounds_toArray, List.set_cons_zero, List.set_cons_succ]
  refine dr_take 13 (some 21) (v := ?_) rfl rfl (by kernel_rfl) (by kernel_rfl) (by kernel_rfl) (fun _ _ _ h => h) rfl hT (fun W _ => ?_) ?_
  rotate_left
  · (go_simp; try with_reducible rfl)
  try simp only [Act.put, List.setIfInBounds_toArray, List.set_cons_zero, List.set_cons_succ]
  refine dr_step 14 rfl (by kernel_rfl) rfl (fun K hK => ?_)
  go_simp
  refine HW.out.mono ?_
  rintro e w2 ⟨rfl, hL2, hfit, hc2⟩
  have hT : True ∧ (w2.cell? ⟨lb, 1, none⟩ = some (.int .u64 (turn : Int)) ∧ w2.cell? ⟨lb, 2, none⟩ = some (.int .u64 (next : Int)) ∧ w2.cell? ⟨lb, 3, none⟩ = some (.int .i64 (at_ : Int))) := ⟨trivial, cell_at hL2.cells 1 rfl, cell_at hL2.cells 2 rfl, cell_at hL2.cells 3 rfl⟩
  refine hK.out _ _ hT ?_
  clear hK K
  try simp only [Act.put, List.setIfInBounds_toArray, List.set_cons_zero, List.set_cons_succ]
  refine dr_take 15 (some 7) (v := ?_) rfl rfl (by kernel_rfl) (by kernel_rfl) (by kernel_rfl) (fun _ _ _ h => h) rfl hT (fun W _ => ?_) ?_
  rotate_left
  · (go_simp; try with_reducible rfl)
  try simp only [Act.put, List.setIfInBounds_toArray, List.set_cons_zero, List.set_cons_succ]
  refine dr_take 16 (some 23) (v := ?_) rfl rfl (by kernel_rfl) (by kernel_rfl) (by kernel_rfl) (fun _ _ _ h => h) rfl hT (fun W _ => ?_) ?_
  rotate_left
  · (go_simp; try with_reducible rfl)
  try simp only [Act.put, List.setIfInBounds_toArray, List.set_cons_zero, List.set_cons_succ]
  refine dr_take 17 (some 24) (v := ?_) rfl rfl (by kernel_rfl) (by kernel_rfl) (by kernel_rfl) (fun _ _ _ h => h) rfl hT (fun W _ => ?_) ?_
  rotate_left
  · (go_simp; try with_reducible rfl)
  try simp only [Act.put, List.setIfInBounds_toArray, List.set_cons_zero, List.set_cons_succ]
  refine dr_take 18 (some 5) (v := ?_) rfl rfl (by kernel_rfl) (by kernel_rfl) (by kernel_rfl) (fun _ _ _ h => h) rfl hT (fun W _ => ?_) ?_
  rotate_left
  · (go_simp; try with_reducible rfl)
  try simp only [Act.put, List.setIfInBounds_toArray, List.set_cons_zero, List.set_cons_succ]
  refine dr_take 19 (some 6) (v := ?_) rfl rfl (by kernel_rfl) (by kernel_rfl) (by kernel_rfl) (fun _ _ _ h => h) rfl hT (fun W _ => ?_) ?_
  rotate_left
  · (go_simp; try with_reducible rfl)
  try simp only [Act.put, List.setIfInBounds_toArray, List.set_cons_zero, List.set_cons_succ]
  refine dr_done (by kernel_rfl) ?_
  have q3 := free_at hL2.cells 3
  have q2 := free_at hL2.cells 2
  have q4 := free_at hL2.cells 4
  have c2 := cell_at hL2.cells 2 rfl
  have c3 := cell_at hL2.cells 3 rfl
  have c4 := cell_at hL2.cells 4 rfl
  have a1 := heap_setCell_same w2 lb 3 _ 124 (.int .i64 ((at_ : Int) + (V : Int))) hL2.cells
  have a2 := heap_setCell_same _ lb 2 _ 124 (.int .u64 ((next : Int) + 1)) a1
  have a3 := heap_setCell_same _ lb 4 _ 124 (.int .i64 ((count : Int) + (k : Int))) a2
  have hcs : Ch [lb] w2 (((w2.setCell ⟨lb, 3, none⟩ (.int .i64 ((at_ : Int) + (V : Int)))).setCell ⟨lb, 2, none⟩ (.int .u64 ((next : Int) + 1))).setCell ⟨lb, 4, none⟩ (.int .i64 ((count : Int) + (k : Int)))) := (((Ch.refl _ _).setCell _ _ (by simp)).setCell _ _ (by simp)).setCell _ _ (by simp)
  have hfin := hL2.re hcs (turn' := turn) (next' := next + 1) (at' := at_ + V) (count' := count + rs.length) (by rw [Int.natCast_add, Int.natCast_add, Int.natCast_add, hrl]; simpa using a3) h.turnB (by omega) hfit (by have := h.countB; omega)
  have Hfin := Lib.hid hfin
  clear hfin a1 a2 a3
  go_wp2_with fail
  go_ret
  refine ⟨rfl, Hfin.out, ?_⟩
  exact (((Ch.refl [lb, b, g, m, um] w).drew).trans hc2 (by intro y hy; left; simp at hy ⊢; omega)).trans hcs (by simp)

theorem wreset_bad (A : Option Addr) (k c : Nat) (F : List Nat) (rs : List (List UInt8)) (w : World) (h : LogS w lb um b g m X n sz R turn next at_ count) (hr : Recs w F A k c rs) (hk : k ≤ 1000000) (hlen : ∀ r ∈ rs, r.length ≤ 1000000000000) (hf : commitE n sz 0 rs ≠ 0) (hT : turn < 4611686018427387904) :
    Calls Try.prog 61 #[.pointer (some ⟨lb, 0, none⟩), .slice A k c] w fun e w' => e = .returned (.int .i64 (commitE n sz 0 rs)) ∧ Ch [] w w' := by
  have hwr := write_bad (turn + 1) 0 0 A k c F rs w h hr hk hlen (by omega) hf
  have h1 := cell_at h.cells 1 rfl
  have hne : (commitE n sz 0 rs != 0) = true := by simpa using hf
  rw [show ((turn + 1 : Nat) : Int) = (turn : Int) + 1 from by omega, show ((0 : Nat) : Int) = 0 from rfl] at hwr
  generalize commitE n sz 0 rs = E at *
  have HW := Lib.hid hwr
  clear hwr hf
  go_enter Try.func61, Try.ntmps61
  go_wp2_with fail
  refine HW.out.mono ?_
  rintro e w2 ⟨rfl, hc2⟩
  go_wp2_with fail
  go_ret
  exact ⟨rfl, hc2⟩

set_option maxRecDepth 100000 in
set_option maxHeartbeats 1000000 in
theorem wreset_ok (A : Option Addr) (k c : Nat) (F : List Nat) (rs : List (List UInt8)) (w : World) (h : LogS w lb um b g m X n sz R turn next at_ count) (hX : ∀ x ∈ X, x < w.heap.size) (hr : Recs w F A k c rs) (hk : k ≤ 1000000) (hlen : ∀ r ∈ rs, r.length ≤ 1000000000000) (hf : commitE n sz 0 rs = 0)
    (hTn : turn < 4611686018427387904) :
    Calls Try.prog 61 #[.pointer (some ⟨lb, 0, none⟩), .slice A k c] w fun e w' => e = .returned (.int .i64 0) ∧
      LogS w' lb um b g m X n sz (layR R (sz - 16) (turn + 1) 0 ((turn + 1) % 2 * (n / 2) + 0) (secsN (sz - 16) (32 + (bodyB rs).length)) (frameB (turn + 1) 0 rs) 0) (turn + 1) 1 (0 + secsN (sz - 16) (32 + (bodyB rs).length)) rs.length ∧ Ch [lb, b, g, m, um] w w' := by
  obtain ⟨hf1, hf2⟩ := commitE_zero hf
  have hwr := write_ok (turn + 1) 0 0 A k c F rs w h hX hr hk hf1 hlen (by omega) (by omega) (by omega) hf2
  have hrl := hr.len
  have h1 := cell_at h.cells 1 rfl
  have hlu := h.lu
  have hout := h.live.outs
  simp only [List.mem_cons, not_or] at hout
  generalize hVe : secsN (sz - 16) (32 + (bodyB rs).length) = V at *
  generalize hRe : layR R (sz - 16) (turn + 1) 0 ((turn + 1) % 2 * (n / 2) + 0) V (frameB (turn + 1) 0 rs) 0 = R2 at *
  rw [show ((turn + 1 : Nat) : Int) = (turn : Int) + 1 from by omega, show ((0 : Nat) : Int) = 0 from rfl, Nat.zero_add] at hwr
  rw [Nat.zero_add]
  have HW := Lib.hid hwr
  clear hwr hf hf1 hf2 hVe hRe
  go_enter Try.func61, Try.ntmps61
  go_wp2_with fail
  refine HW.out.mono ?_
  rintro e w2 ⟨rfl, hL2, hfit, hc2⟩
  have q1 := free_at hL2.cells 1
  have q2 := free_at hL2.cells 2
  have q3 := free_at hL2.cells 3
  have q4 := free_at hL2.cells 4
  have c1 := cell_at hL2.cells 1 rfl
  have c2 := cell_at hL2.cells 2 rfl
  have c3 := cell_at hL2.cells 3 rfl
  have c4 := cell_at hL2.cells 4 rfl
  have a1 := heap_setCell_same w2 lb 1 _ 124 (.int .u64 ((turn : Int) + 1)) hL2.cells
  have a2 := heap_setCell_same _ lb 2 _ 124 (.int .u64 1) a1
  have a3 := heap_setCell_same _ lb 3 _ 124 (.int .i64 (V : Int)) a2
  have a4 := heap_setCell_same _ lb 4 _ 124 (.int .i64 (k : Int)) a3
  have hcs : Ch [lb] w2 ((((w2.setCell ⟨lb, 1, none⟩ (.int .u64 ((turn : Int) + 1))).setCell ⟨lb, 2, none⟩ (.int .u64 1)).setCell ⟨lb, 3, none⟩ (.int .i64 (V : Int))).setCell ⟨lb, 4, none⟩ (.int .i64 (k : Int))) := ((((Ch.refl _ _).setCell _ _ (by simp)).setCell _ _ (by simp)).setCell _ _ (by simp)).setCell _ _ (by simp)
  have hfin := hL2.re hcs (turn' := turn + 1) (next' := 1) (at' := V) (count' := rs.length) (by rw [Int.natCast_add, hrl]; simpa using a4) (by omega) (by omega) hfit (by omega)
  have Hfin := Lib.hid hfin
  clear hfin a1 a2 a3 a4
  go_wp2_with fail
  go_ret
  refine ⟨rfl, Hfin.out, ?_⟩
  exact ((Ch.refl [lb, b, g, m, um] w).trans hc2 (by intro y hy; left; simp at hy ⊢; omega)).trans hcs (by simp)
end

end Go.Proofs.Ytbkncfedahifkaa
