/-
  A region that draws its order, step by step: an operation that yields its value in every world that may come is taken first; a loud one stands alone.
-/
import Derived.Test.YtbkncfedahifkaaBase
import Derived.OrdersHeld
import Derived.Deep.RegionHeld
namespace Go.Proofs.Ytbkncfedahifkaa
open Go.RowKit

section
variable {P : Program} {md : Region.Mode} {ops : Array Oper} {Q : Exit → Act → World → Prop} {S : World → Prop} {fuel : Nat} {listed : Array Bool} {a : Act} {w : World}

theorem wpAnyH_imp {S' : World → Prop} (hS : ∀ W, S W → S' W) : ∀ (fuel : Nat) (listed : Array Bool) (a : Act) (w : World), wpAnyH P md ops Q S fuel listed a w → wpAnyH P md ops Q S' fuel listed a w
  | 0, _, _, _, h => h
  | fuel + 1, _, _, _, h => ⟨h.1, fun i hi => wpOp_mono (fun a' w' h' => ⟨hS _ h'.1, wpAnyH_imp hS fuel _ a' w' h'.2⟩) (h.2 i hi)⟩
/-- What holds of all worlds to come may be made more at any time. -/
theorem dr_more (S' : World → Prop) (h : wpAnyH P md ops Q (fun W => S W ∧ S' W) fuel listed a w) : wpAnyH P md ops Q S fuel listed a w := wpAnyH_imp (fun _ h => h.1) _ _ _ _ h
theorem dr_begin {id : Nat} (hm : P.follows .mixedOrders = true)
    (h : wpAnyH P .any ops Q (fun _ => True) ops.size (Array.replicate ops.size false) a w.drew) : (Code.region id ops true).wp P Q a w := wp_region_held hm h
/-- It yields, and is taken first. -/
theorem dr_take (i : Nat) (d : Option Tmp) {oi : Oper} {v : Value} (hi : ops[i]? = some oi) (hd : oi.dst = d) (hs : Region.noSelect ops = true) (hf : Region.free md ops listed i = true) (hr : (Region.ready md ops listed).contains i = true)
    (hQ : ∀ c a w, Q (.panic c) (a.put oi.dst v) w → Q (.panic c) a w) (hw : Region.wanted oi (yielded ops a.tmps) = true) (hS : S w)
    (hy : ∀ W, S W → (execOp a.eval oi).run P W = .ok (.value v) W)
    (h : wpAnyH P md ops Q S fuel (listed.setIfInBounds i true) (a.put d v) w) : wpAnyH P md ops Q S (fuel + 1) listed a w := by
  subst hd
  exact wpAnyH_take hi hs hf hr hQ (.inl ⟨hw, hy⟩) hS h
/-- Its guard says no. -/
theorem dr_skip (i : Nat) (d : Option Tmp) {oi : Oper} (hi : ops[i]? = some oi) (hd : oi.dst = d) (hs : Region.noSelect ops = true) (hf : Region.free md ops listed i = true) (hr : (Region.ready md ops listed).contains i = true)
    (hQ : ∀ c a w, Q (.panic c) (a.put oi.dst undef) w → Q (.panic c) a w) (hw : Region.wanted oi (yielded ops a.tmps) = false) (hS : S w)
    (h : wpAnyH P md ops Q S fuel (listed.setIfInBounds i true) (a.put d undef) w) : wpAnyH P md ops Q S (fuel + 1) listed a w := by
  subst hd
  exact wpAnyH_take hi hs hf hr hQ (.inr ⟨hw, rfl⟩) hS h
/-- It stands alone. -/
theorem dr_step (i : Nat) {oi : Oper} (hi : ops[i]? = some oi) (hr : Region.ready md ops listed = [i]) (hw : Region.wanted oi (yielded ops a.tmps) = true)
    (h : ∀ K : Act → World → Prop, Shut (∀ a' w', S w' → wpAnyH P md ops Q S fuel (listed.setIfInBounds i true) a' w' → K a' w') → oi.wp P a w K Q) : wpAnyH P md ops Q S (fuel + 1) listed a w :=
  wpAnyH_ready hr (by simp) (AllReadyH.cons hi (fun K hK => by rw [if_pos hw]; exact h K (fun a' w' hS hW => hK a' w' hS (fun _ => hW))) AllReadyH.nil)
theorem dr_done (hr : Region.ready md ops listed = []) (h : Q .normal a w) : wpAnyH P md ops Q S fuel listed a w := wpAnyH_done hr h fuel
end

/-! ### comparisons that are decided: as facts on the operation -/
theorem toList_loop (b : ByteArray) : ∀ (n i : Nat) (r : List UInt8), b.size - i = n → ByteArray.toList.loop b i r = r.reverse ++ b.data.toList.drop i := by
  intro n
  induction n with
  | zero =>
    intro i r h
    rw [ByteArray.toList.loop, if_neg (by omega), List.drop_eq_nil_of_le (by show b.data.toList.length ≤ i; rw [Array.length_toList]; exact Nat.le_of_sub_eq_zero h)]
    simp
  | succ n ih =>
    intro i r h
    have hi : i < b.size := by omega
    have hi' : i < b.data.toList.length := by rw [Array.length_toList]; exact hi
    rw [ByteArray.toList.loop, if_pos hi, ih _ _ (by omega), List.drop_eq_getElem_cons hi']
    have e : b.get! i = b.data.toList[i] := by
      show b.data[i]! = _
      rw [getElem!_pos b.data i hi]
      simp
    simp [e]
theorem toList_data (b : ByteArray) : b.toList = b.data.toList := by
  rw [ByteArray.toList, toList_loop b b.size 0 [] (by omega)]
  simp
theorem str_toList (l : List UInt8) : (str l).toList = l := by rw [toList_data]; rfl
theorem eql_str_no (t : TypeId) {x y : ByteArray} (h : x ≠ y) : binOp .eql t (.string x) (.string y) = pure (.bool false) := by
  have e : (x.toList == y.toList) = false := by
    rw [toList_data, toList_data, beq_eq_false_iff_ne]
    intro e
    refine h ?_
    cases x; cases y
    congr 1
    exact Array.ext' e
  rw [binOp_string_eql, e]
theorem eql_str_yes (t : TypeId) (x : ByteArray) : binOp .eql t (.string x) (.string x) = pure (.bool true) := by
  rw [binOp_string_eql, beq_self_eq_true]
theorem eql_int_no (t : TypeId) (k : IntKind) {x y : Int} (h : x ≠ y) : binOp .eql t (.int k x) (.int k y) = pure (.bool false) := by
  rw [binOp_eql, show (x == y) = false from by simpa using h]
theorem eql_int_yes (t : TypeId) (k : IntKind) (x : Int) : binOp .eql t (.int k x) (.int k x) = pure (.bool true) := by
  rw [binOp_eql, beq_self_eq_true]
theorem gtr_int_yes (t : TypeId) (k : IntKind) {x y : Int} (h : y < x) : binOp .gtr t (.int k x) (.int k y) = pure (.bool true) := by
  rw [binOp_gtr, show (decide (x > y)) = true from by simpa using h]
theorem gtr_int_no (t : TypeId) (k : IntKind) {x y : Int} (h : x ≤ y) : binOp .gtr t (.int k x) (.int k y) = pure (.bool false) := by
  rw [binOp_gtr, show (decide (x > y)) = false from by simpa using h]
theorem leq_int_yes (t : TypeId) (k : IntKind) {x y : Int} (h : x ≤ y) : binOp .leq t (.int k x) (.int k y) = pure (.bool true) := by
  rw [binOp_leq, show (decide (x ≤ y)) = true from by simpa using h]

end Go.Proofs.Ytbkncfedahifkaa
