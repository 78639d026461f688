/-
  No cell of these rows narrows 'for every input' (looked for: loops, veiled, ifaces, maps, wideKeys, modest, calm, conditions, laid).
  DERIVED. THE GIVEN ROWS OF THIS SEAT. 9 by the template 'for every input the law returns true; each argument reads behind the call as it read before'; 0 by the template 'total and deterministic' (their statements: YtbkncfedahifkaaGreatTotals.lean).
  GIVEN WITH THE SEED: the statements are not yours to turn. If you find one false, say at which input.
  Laid BY PROGRAM, IN A SANDBOX (cutbox-rows.mjs): the forced cells as the released guide's own fill.sh prints them over the translation b460faf52ed2feb9… (all of the seat's roots in one cut). By AI agents, Wed Nov 11 2026. No macro, syntax, notation, axiom, sorry.
-/
import Derived.Test.YtbkncfedahifkaaGreatChecked
import GoSem.Claim
import GoSem.ClaimJoined
import GoSem.ClaimMapViews
import Derived.JoinedTies
import Derived.KernelRfl
namespace Go.Proofs.YtbkncfedahifkaaGreat
/- THE CELL 'sum', in the pinned program and in every row, IS THE sha256 OF THE DUMP (.gsa) THAT YtbkncfedahifkaaGreatProg.lean LOADS. Nothing in Lean hashes anything: it is a label: what it is worth is what the hold of that sum in a sandbox is worth. -/
noncomputable def Tryz.pinned : Pinned := { name := "ytbkncfedahifkaagreat", sum := "b460faf52ed2feb9e4d19657c9bbd38a6c555ddc398448464e1d790c20b90c5a", checked := Tryz.checked }
namespace Rows
def none {H : Type} : Left H := { results := [], args := [] }

/-- 'haversacklaw5.StoreTurned': WHATEVER THE INPUT: true; the input reads as it did. -/
def storeTurnedSpec : ChangeSpec := { name := "storeTurned", fn := fun _ => fun
  | [d1, d2] => { results := [.lit (.bool true)], args := [d1, d2] }
  | _ => none }
def storeTurnedRow : OpenClaim := { program := "ytbkncfedahifkaagreat", sum := "b460faf52ed2feb9e4d19657c9bbd38a6c555ddc398448464e1d790c20b90c5a", func := "haversack/haversacklaw5.StoreTurned", spec := "storeTurned", inPlace := ["maps.clone"], unfollowed := true, recurses := true, plainKeys := false, apart := false }
def StoreTurnedSaid : Prop := storeTurnedRow.holds Tryz.pinned (OpenSpec.ofChange storeTurnedSpec)

/-- ITS FALSE NEIGHBOUR: 'it returns false'. Refute it at one input. -/
def storeTurnedWrong : ChangeSpec := { name := "storeTurned", fn := fun _ => fun
  | [d1, d2] => { results := [.lit (.bool false)], args := [d1, d2] }
  | _ => none }
def StoreTurnedWrongFalsely : Prop := storeTurnedRow.holds Tryz.pinned (OpenSpec.ofChange storeTurnedWrong)

/-- 'haversacklaw5.StoreBatch': WHATEVER THE INPUT: true; the input reads as it did. -/
def storeBatchSpec : ChangeSpec := { name := "storeBatch", fn := fun _ => fun
  | [d] => { results := [.lit (.bool true)], args := [d] }
  | _ => none }
def storeBatchRow : OpenClaim := { program := "ytbkncfedahifkaagreat", sum := "b460faf52ed2feb9e4d19657c9bbd38a6c555ddc398448464e1d790c20b90c5a", func := "haversack/haversacklaw5.StoreBatch", spec := "storeBatch", inPlace := ["maps.clone"], unfollowed := true, recurses := true, plainKeys := false, apart := false }
def StoreBatchSaid : Prop := storeBatchRow.holds Tryz.pinned (OpenSpec.ofChange storeBatchSpec)

/-- ITS FALSE NEIGHBOUR: 'it returns false'. Refute it at one input. -/
def storeBatchWrong : ChangeSpec := { name := "storeBatch", fn := fun _ => fun
  | [d] => { results := [.lit (.bool false)], args := [d] }
  | _ => none }
def StoreBatchWrongFalsely : Prop := storeBatchRow.holds Tryz.pinned (OpenSpec.ofChange storeBatchWrong)

/-- 'haversacklaw5.StoreRounds': WHATEVER THE INPUT: true; the input reads as it did. -/
def storeRoundsSpec : ChangeSpec := { name := "storeRounds", fn := fun _ => fun
  | [d1, d2] => { results := [.lit (.bool true)], args := [d1, d2] }
  | _ => none }
def storeRoundsRow : OpenClaim := { program := "ytbkncfedahifkaagreat", sum := "b460faf52ed2feb9e4d19657c9bbd38a6c555ddc398448464e1d790c20b90c5a", func := "haversack/haversacklaw5.StoreRounds", spec := "storeRounds", inPlace := ["maps.clone"], unfollowed := true, recurses := true, plainKeys := false, apart := false }
def StoreRoundsSaid : Prop := storeRoundsRow.holds Tryz.pinned (OpenSpec.ofChange storeRoundsSpec)

/-- ITS FALSE NEIGHBOUR: 'it returns false'. Refute it at one input. -/
def storeRoundsWrong : ChangeSpec := { name := "storeRounds", fn := fun _ => fun
  | [d1, d2] => { results := [.lit (.bool false)], args := [d1, d2] }
  | _ => none }
def StoreRoundsWrongFalsely : Prop := storeRoundsRow.holds Tryz.pinned (OpenSpec.ofChange storeRoundsWrong)

/-- 'haversacklaw5.StorePrefix': WHATEVER THE INPUT: true; the input reads as it did. -/
def storePrefixSpec : ChangeSpec := { name := "storePrefix", fn := fun _ => fun
  | [d1, d2] => { results := [.lit (.bool true)], args := [d1, d2] }
  | _ => none }
def storePrefixRow : OpenClaim := { program := "ytbkncfedahifkaagreat", sum := "b460faf52ed2feb9e4d19657c9bbd38a6c555ddc398448464e1d790c20b90c5a", func := "haversack/haversacklaw5.StorePrefix", spec := "storePrefix", inPlace := ["maps.clone"], unfollowed := true, recurses := true, plainKeys := false, apart := false }
def StorePrefixSaid : Prop := storePrefixRow.holds Tryz.pinned (OpenSpec.ofChange storePrefixSpec)

/-- ITS FALSE NEIGHBOUR: 'it returns false'. Refute it at one input. -/
def storePrefixWrong : ChangeSpec := { name := "storePrefix", fn := fun _ => fun
  | [d1, d2] => { results := [.lit (.bool false)], args := [d1, d2] }
  | _ => none }
def StorePrefixWrongFalsely : Prop := storePrefixRow.holds Tryz.pinned (OpenSpec.ofChange storePrefixWrong)

/-- 'haversacklaw5.StorePlays': WHATEVER THE INPUT: true; the input reads as it did. -/
def storePlaysSpec : ChangeSpec := { name := "storePlays", fn := fun _ => fun
  | [d] => { results := [.lit (.bool true)], args := [d] }
  | _ => none }
def storePlaysRow : OpenClaim := { program := "ytbkncfedahifkaagreat", sum := "b460faf52ed2feb9e4d19657c9bbd38a6c555ddc398448464e1d790c20b90c5a", func := "haversack/haversacklaw5.StorePlays", spec := "storePlays", inPlace := ["maps.clone"], unfollowed := true, recurses := true, plainKeys := false, apart := false }
def StorePlaysSaid : Prop := storePlaysRow.holds Tryz.pinned (OpenSpec.ofChange storePlaysSpec)

/-- ITS FALSE NEIGHBOUR: 'it returns false'. Refute it at one input. -/
def storePlaysWrong : ChangeSpec := { name := "storePlays", fn := fun _ => fun
  | [d] => { results := [.lit (.bool false)], args := [d] }
  | _ => none }
def StorePlaysWrongFalsely : Prop := storePlaysRow.holds Tryz.pinned (OpenSpec.ofChange storePlaysWrong)

/-- 'haversacklaw25.LatchTwo': WHATEVER THE INPUT: true; the input reads as it did. -/
def latchTwoSpec : ChangeSpec := { name := "latchTwo", fn := fun _ => fun
  | [d1, d2, d3] => { results := [.lit (.bool true)], args := [d1, d2, d3] }
  | _ => none }
def latchTwoRow : OpenClaim := { program := "ytbkncfedahifkaagreat", sum := "b460faf52ed2feb9e4d19657c9bbd38a6c555ddc398448464e1d790c20b90c5a", func := "haversack/haversacklaw25.LatchTwo", spec := "latchTwo", inPlace := ["maps.clone"], unfollowed := true, recurses := true, plainKeys := false, apart := false }
def LatchTwoSaid : Prop := latchTwoRow.holds Tryz.pinned (OpenSpec.ofChange latchTwoSpec)

/-- ITS FALSE NEIGHBOUR: 'it returns false'. Refute it at one input. -/
def latchTwoWrong : ChangeSpec := { name := "latchTwo", fn := fun _ => fun
  | [d1, d2, d3] => { results := [.lit (.bool false)], args := [d1, d2, d3] }
  | _ => none }
def LatchTwoWrongFalsely : Prop := latchTwoRow.holds Tryz.pinned (OpenSpec.ofChange latchTwoWrong)

/-- 'haversacklaw25.LatchPlays': WHATEVER THE INPUT: true; the input reads as it did. -/
def latchPlaysSpec : ChangeSpec := { name := "latchPlays", fn := fun _ => fun
  | [d] => { results := [.lit (.bool true)], args := [d] }
  | _ => none }
def latchPlaysRow : OpenClaim := { program := "ytbkncfedahifkaagreat", sum := "b460faf52ed2feb9e4d19657c9bbd38a6c555ddc398448464e1d790c20b90c5a", func := "haversack/haversacklaw25.LatchPlays", spec := "latchPlays", inPlace := ["maps.clone"], unfollowed := true, recurses := true, plainKeys := false, apart := false }
def LatchPlaysSaid : Prop := latchPlaysRow.holds Tryz.pinned (OpenSpec.ofChange latchPlaysSpec)

/-- ITS FALSE NEIGHBOUR: 'it returns false'. Refute it at one input. -/
def latchPlaysWrong : ChangeSpec := { name := "latchPlays", fn := fun _ => fun
  | [d] => { results := [.lit (.bool false)], args := [d] }
  | _ => none }
def LatchPlaysWrongFalsely : Prop := latchPlaysRow.holds Tryz.pinned (OpenSpec.ofChange latchPlaysWrong)

/-- 'haversacklaw25.LatchTakes': WHATEVER THE INPUT: true; the input reads as it did. -/
def latchTakesSpec : ChangeSpec := { name := "latchTakes", fn := fun _ => fun
  | [d1, d2, d3] => { results := [.lit (.bool true)], args := [d1, d2, d3] }
  | _ => none }
def latchTakesRow : OpenClaim := { program := "ytbkncfedahifkaagreat", sum := "b460faf52ed2feb9e4d19657c9bbd38a6c555ddc398448464e1d790c20b90c5a", func := "haversack/haversacklaw25.LatchTakes", spec := "latchTakes", inPlace := ["maps.clone"], unfollowed := true, recurses := true, plainKeys := false, apart := false }
def LatchTakesSaid : Prop := latchTakesRow.holds Tryz.pinned (OpenSpec.ofChange latchTakesSpec)

/-- ITS FALSE NEIGHBOUR: 'it returns false'. Refute it at one input. -/
def latchTakesWrong : ChangeSpec := { name := "latchTakes", fn := fun _ => fun
  | [d1, d2, d3] => { results := [.lit (.bool false)], args := [d1, d2, d3] }
  | _ => none }
def LatchTakesWrongFalsely : Prop := latchTakesRow.holds Tryz.pinned (OpenSpec.ofChange latchTakesWrong)

/-- 'haversacklaw21.CachePlays': WHATEVER THE INPUT: true; the input reads as it did. -/
def cachePlaysSpec : ChangeSpec := { name := "cachePlays", fn := fun _ => fun
  | [d] => { results := [.lit (.bool true)], args := [d] }
  | _ => none }
def cachePlaysRow : OpenClaim := { program := "ytbkncfedahifkaagreat", sum := "b460faf52ed2feb9e4d19657c9bbd38a6c555ddc398448464e1d790c20b90c5a", func := "haversack/haversacklaw21.CachePlays", spec := "cachePlays", inPlace := ["maps.clone", "internal/bytealg.IndexByteString"], unfollowed := true, recurses := true, plainKeys := false, apart := false }
def CachePlaysSaid : Prop := cachePlaysRow.holds Tryz.pinned (OpenSpec.ofChange cachePlaysSpec)

/-- ITS FALSE NEIGHBOUR: 'it returns false'. Refute it at one input. -/
def cachePlaysWrong : ChangeSpec := { name := "cachePlays", fn := fun _ => fun
  | [d] => { results := [.lit (.bool false)], args := [d] }
  | _ => none }
def CachePlaysWrongFalsely : Prop := cachePlaysRow.holds Tryz.pinned (OpenSpec.ofChange cachePlaysWrong)

/- THE SECOND FORM. 'bulk': how many values and letters a reading holds, each counted each time it is reached (what is shared counts as often as it is met; a slice's spare places count too). A statement '..UptoSaid' is the law's where the arguments, and the package variables that the reading takes, are together of bulk at most 1048576: NARROWER than '..Said'. Prove '..Said' where nothing that the law and all that it calls make is longer than what came in: it says more and counts as full. Else prove '..UptoSaid'. A law counts once. -/
mutual
def uptoBulk {H : Type} : DataW H → Nat
  | .lit (.string bytes) => bytes.length + 1
  | .lit _ => 1
  | .nil => 1
  | .ptr d => uptoBulk d + 1
  | .slice elems spare => uptoBulkAll elems + uptoBulkAll spare + 1
  | .agg parts => uptoBulkAll parts + 1
  | .iface _ d => uptoBulk d + 1
  | .map entries => uptoBulkEntries entries + 1
  | .held _ => 1
def uptoBulkAll {H : Type} : List (DataW H) → Nat
  | [] => 0
  | d :: r => uptoBulk d + uptoBulkAll r
def uptoBulkEntries {H : Type} : List (Lit × DataW H) → Nat
  | [] => 0
  | x :: r => uptoBulkEntry x + uptoBulkEntries r
def uptoBulkEntry {H : Type} : Lit × DataW H → Nat
  | (.string bytes, d) => bytes.length + uptoBulk d + 1
  | (_, d) => uptoBulk d + 1
 end
def uptoSmall : (H : Type) → List (DataW H) → Bool := fun _ ds => decide (uptoBulkAll ds ≤ 1048576)
def OpenSpec.upto (s : _root_.Go.ChangeSpec) : _root_.Go.OpenSpec := { _root_.Go.OpenSpec.ofChange s with cond := some uptoSmall }

/-- 'haversacklaw5.StoreTurned', WHERE WHAT IT READS IS OF BULK AT MOST 1048576: true; the input reads as it did. -/
def storeTurnedUptoRow : OpenClaim := { program := "ytbkncfedahifkaagreat", sum := "b460faf52ed2feb9e4d19657c9bbd38a6c555ddc398448464e1d790c20b90c5a", func := "haversack/haversacklaw5.StoreTurned", spec := "storeTurned", inPlace := ["maps.clone"], unfollowed := true, recurses := true, plainKeys := false, apart := false, narrowed := true }
def StoreTurnedUptoSaid : Prop := storeTurnedUptoRow.holds Tryz.pinned (OpenSpec.upto storeTurnedSpec)

/-- 'haversacklaw5.StoreBatch', WHERE WHAT IT READS IS OF BULK AT MOST 1048576: true; the input reads as it did. -/
def storeBatchUptoRow : OpenClaim := { program := "ytbkncfedahifkaagreat", sum := "b460faf52ed2feb9e4d19657c9bbd38a6c555ddc398448464e1d790c20b90c5a", func := "haversack/haversacklaw5.StoreBatch", spec := "storeBatch", inPlace := ["maps.clone"], unfollowed := true, recurses := true, plainKeys := false, apart := false, narrowed := true }
def StoreBatchUptoSaid : Prop := storeBatchUptoRow.holds Tryz.pinned (OpenSpec.upto storeBatchSpec)

/-- 'haversacklaw5.StoreRounds', WHERE WHAT IT READS IS OF BULK AT MOST 1048576: true; the input reads as it did. -/
def storeRoundsUptoRow : OpenClaim := { program := "ytbkncfedahifkaagreat", sum := "b460faf52ed2feb9e4d19657c9bbd38a6c555ddc398448464e1d790c20b90c5a", func := "haversack/haversacklaw5.StoreRounds", spec := "storeRounds", inPlace := ["maps.clone"], unfollowed := true, recurses := true, plainKeys := false, apart := false, narrowed := true }
def StoreRoundsUptoSaid : Prop := storeRoundsUptoRow.holds Tryz.pinned (OpenSpec.upto storeRoundsSpec)

/-- 'haversacklaw5.StorePrefix', WHERE WHAT IT READS IS OF BULK AT MOST 1048576: true; the input reads as it did. -/
def storePrefixUptoRow : OpenClaim := { program := "ytbkncfedahifkaagreat", sum := "b460faf52ed2feb9e4d19657c9bbd38a6c555ddc398448464e1d790c20b90c5a", func := "haversack/haversacklaw5.StorePrefix", spec := "storePrefix", inPlace := ["maps.clone"], unfollowed := true, recurses := true, plainKeys := false, apart := false, narrowed := true }
def StorePrefixUptoSaid : Prop := storePrefixUptoRow.holds Tryz.pinned (OpenSpec.upto storePrefixSpec)

/-- 'haversacklaw5.StorePlays', WHERE WHAT IT READS IS OF BULK AT MOST 1048576: true; the input reads as it did. -/
def storePlaysUptoRow : OpenClaim := { program := "ytbkncfedahifkaagreat", sum := "b460faf52ed2feb9e4d19657c9bbd38a6c555ddc398448464e1d790c20b90c5a", func := "haversack/haversacklaw5.StorePlays", spec := "storePlays", inPlace := ["maps.clone"], unfollowed := true, recurses := true, plainKeys := false, apart := false, narrowed := true }
def StorePlaysUptoSaid : Prop := storePlaysUptoRow.holds Tryz.pinned (OpenSpec.upto storePlaysSpec)

/-- 'haversacklaw25.LatchTwo', WHERE WHAT IT READS IS OF BULK AT MOST 1048576: true; the input reads as it did. -/
def latchTwoUptoRow : OpenClaim := { program := "ytbkncfedahifkaagreat", sum := "b460faf52ed2feb9e4d19657c9bbd38a6c555ddc398448464e1d790c20b90c5a", func := "haversack/haversacklaw25.LatchTwo", spec := "latchTwo", inPlace := ["maps.clone"], unfollowed := true, recurses := true, plainKeys := false, apart := false, narrowed := true }
def LatchTwoUptoSaid : Prop := latchTwoUptoRow.holds Tryz.pinned (OpenSpec.upto latchTwoSpec)

/-- 'haversacklaw25.LatchPlays', WHERE WHAT IT READS IS OF BULK AT MOST 1048576: true; the input reads as it did. -/
def latchPlaysUptoRow : OpenClaim := { program := "ytbkncfedahifkaagreat", sum := "b460faf52ed2feb9e4d19657c9bbd38a6c555ddc398448464e1d790c20b90c5a", func := "haversack/haversacklaw25.LatchPlays", spec := "latchPlays", inPlace := ["maps.clone"], unfollowed := true, recurses := true, plainKeys := false, apart := false, narrowed := true }
def LatchPlaysUptoSaid : Prop := latchPlaysUptoRow.holds Tryz.pinned (OpenSpec.upto latchPlaysSpec)

/-- 'haversacklaw25.LatchTakes', WHERE WHAT IT READS IS OF BULK AT MOST 1048576: true; the input reads as it did. -/
def latchTakesUptoRow : OpenClaim := { program := "ytbkncfedahifkaagreat", sum := "b460faf52ed2feb9e4d19657c9bbd38a6c555ddc398448464e1d790c20b90c5a", func := "haversack/haversacklaw25.LatchTakes", spec := "latchTakes", inPlace := ["maps.clone"], unfollowed := true, recurses := true, plainKeys := false, apart := false, narrowed := true }
def LatchTakesUptoSaid : Prop := latchTakesUptoRow.holds Tryz.pinned (OpenSpec.upto latchTakesSpec)

/-- 'haversacklaw21.CachePlays', WHERE WHAT IT READS IS OF BULK AT MOST 1048576: true; the input reads as it did. -/
def cachePlaysUptoRow : OpenClaim := { program := "ytbkncfedahifkaagreat", sum := "b460faf52ed2feb9e4d19657c9bbd38a6c555ddc398448464e1d790c20b90c5a", func := "haversack/haversacklaw21.CachePlays", spec := "cachePlays", inPlace := ["maps.clone", "internal/bytealg.IndexByteString"], unfollowed := true, recurses := true, plainKeys := false, apart := false, narrowed := true }
def CachePlaysUptoSaid : Prop := cachePlaysUptoRow.holds Tryz.pinned (OpenSpec.upto cachePlaysSpec)

end Rows
end Go.Proofs.YtbkncfedahifkaaGreat
