/-
  A reader of one's own, call by call.
-/
import Derived.Test.YtbkncfedahifkaaWB
set_option linter.unusedVariables false
namespace Go.Proofs.Ytbkncfedahifkaa
open Go.RowKit

structure RS (w cur : World) (r g : Nat) (st : Option (List UInt8)) : Prop where
  rd : IsRd cur r g st
  ch : Ch [] w cur
  hr : w.heap.size ≤ r
section
variable {w cur : World} {r g : Nat} {st : Option (List UInt8)}
theorem RS.nil {cur' : World} (h : RS w cur r g st) (hc : Ch [] cur cur') : RS w cur' r g st := ⟨h.rd.nil hc, h.ch.trans hc (by simp), h.hr⟩
theorem RS.drew (h : RS w cur r g st) : RS w cur.drew r g st := h.nil (Ch.refl _ _).drew
theorem RS.step {cur' : World} {st' : Option (List UInt8)} (h : RS w cur r g st) (h1 : IsRd cur' r g st') (hc : Ch [r] cur cur') : RS w cur' r g st' :=
  ⟨h1, h.ch.trans hc (by simpa using h.hr), h.hr⟩
theorem RS.numA (h : RS w cur r g st) : Calls Try.prog 33 #[.pointer (some ⟨r, 0, none⟩)] cur fun e w' => e = .returned (ans (.int .u64 0) (st.bind rNum)) ∧ RS w w' r g ((st.bind rNum).map (·.2)) :=
  (rnum r g st cur h.rd).mono fun e w' ⟨he, h1, h2⟩ => ⟨he, h.step h1 h2⟩
theorem RS.intA (h : RS w cur r g st) : Calls Try.prog 23 #[.pointer (some ⟨r, 0, none⟩)] cur fun e w' => e = .returned (ans (.int .i64 0) (st.bind rInt)) ∧ RS w w' r g ((st.bind rInt).map (·.2)) :=
  (rint r g st cur h.rd).mono fun e w' ⟨he, h1, h2⟩ => ⟨he, h.step h1 h2⟩
theorem RS.textA (h : RS w cur r g st) : Calls Try.prog 36 #[.pointer (some ⟨r, 0, none⟩)] cur fun e w' => e = .returned (ans (.string ⟨#[]⟩) (st.bind rText)) ∧ RS w w' r g ((st.bind rText).map (·.2)) :=
  (rtext r g st cur h.rd).mono fun e w' ⟨he, h1, h2⟩ => ⟨he, h.step h1 h2⟩
theorem RS.boolA (h : RS w cur r g st) : Calls Try.prog 38 #[.pointer (some ⟨r, 0, none⟩)] cur fun e w' => e = .returned (ans (.bool false) (st.bind rBool)) ∧ RS w w' r g ((st.bind rBool).map (·.2)) :=
  (rbool r g st cur h.rd).mono fun e w' ⟨he, h1, h2⟩ => ⟨he, h.step h1 h2⟩
theorem RS.done (h : RS w cur r g st) : Calls Try.prog 24 #[.pointer (some ⟨r, 0, none⟩)] cur fun e w' => e = .returned (.int .i64 (doneV st)) ∧ cur = w' := rdone r g st cur h.rd
theorem RS.num {n : Nat} {rest : List UInt8} (h : RS w cur r g (some (encN n ++ rest))) (hn : n < 18446744073709551616) :
    Calls Try.prog 33 #[.pointer (some ⟨r, 0, none⟩)] cur fun e w' => e = .returned (.int .u64 (n : Int)) ∧ RS w w' r g (some rest) := by
  have e1 : (some (encN n ++ rest)).bind rNum = some (.int .u64 (n : Int), rest) := by
    rw [Option.bind_some, rNum, decN_encN n rest hn]; rfl
  have := h.numA
  rw [e1] at this
  exact this
theorem RS.int {n : Int} {rest : List UInt8} (h : RS w cur r g (some (encN (zz n) ++ rest))) (h0 : -9223372036854775808 ≤ n) (h1 : n ≤ 9223372036854775807) :
    Calls Try.prog 23 #[.pointer (some ⟨r, 0, none⟩)] cur fun e w' => e = .returned (.int .i64 n) ∧ RS w w' r g (some rest) := by
  have e1 : (some (encN (zz n) ++ rest)).bind rInt = some (.int .i64 n, rest) := by
    rw [Option.bind_some, rInt, decN_encN (zz n) rest (zz_lt h0 h1), Option.map_some, unzz_zz]
  have := h.intA
  rw [e1] at this
  exact this
theorem RS.text {s : ByteArray} {rest : List UInt8} (h : RS w cur r g (some (encT s.data.toList ++ rest))) (hs : s.size < 18446744073709551616) :
    Calls Try.prog 36 #[.pointer (some ⟨r, 0, none⟩)] cur fun e w' => e = .returned (.string s) ∧ RS w w' r g (some rest) := by
  have e1 : (some (encT s.data.toList ++ rest)).bind rText = some (.string s, rest) := by
    rw [Option.bind_some, rText, decT_encT s.data.toList rest hs, Option.map_some, str_of]
  have := h.textA
  rw [e1] at this
  exact this
theorem RS.bool {x : Bool} {rest : List UInt8} (h : RS w cur r g (some (encB x ++ rest))) :
    Calls Try.prog 38 #[.pointer (some ⟨r, 0, none⟩)] cur fun e w' => e = .returned (.bool x) ∧ RS w w' r g (some rest) := by
  have e1 : (some (encB x ++ rest)).bind rBool = some (.bool x, rest) := by
    rw [Option.bind_some, rBool, decB_encB x rest, Option.map_some]
  have := h.boolA
  rw [e1] at this
  exact this
end

end Go.Proofs.Ytbkncfedahifkaa
