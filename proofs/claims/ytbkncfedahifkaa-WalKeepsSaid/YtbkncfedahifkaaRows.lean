/-
  No cell of these rows narrows 'for every input' (looked for: loops, veiled, ifaces, maps, wideKeys, modest, calm, conditions, laid).
  DERIVED. THE GIVEN ROWS OF THIS SEAT. 15 by the template 'for every input the law returns true; each argument reads behind the call as it read before'; 0 by the template 'total and deterministic' (their statements: YtbkncfedahifkaaTotals.lean).
  GIVEN WITH THE SEED: the statements are not yours to turn. If you find one false, say at which input.
  Laid BY PROGRAM, IN A SANDBOX (cutbox-rows.mjs): the forced cells as the released guide's own fill.sh prints them over the translation 16f2646e265b61e1… (all of the seat's roots in one cut). By AI agents, Wed Nov 11 2026. No macro, syntax, notation, axiom, sorry.
-/
import Derived.Test.YtbkncfedahifkaaChecked
import GoSem.Claim
import GoSem.ClaimJoined
import GoSem.ClaimMapViews
import Derived.JoinedTies
import Derived.KernelRfl
namespace Go.Proofs.Ytbkncfedahifkaa
/- THE CELL 'sum', in the pinned program and in every row, IS THE sha256 OF THE DUMP (.gsa) THAT YtbkncfedahifkaaProg.lean LOADS. Nothing in Lean hashes anything: it is a label: what it is worth is what the hold of that sum in a sandbox is worth. -/
noncomputable def Try.pinned : Pinned := { name := "ytbkncfedahifkaa", sum := "16f2646e265b61e13dfc3ea038b1e02b5685648bff23197038201f47fe7247ef", checked := Try.checked }
namespace Rows
def none {H : Type} : Left H := { results := [], args := [] }

/-- 'haversacklaw2.CodeInts': WHATEVER THE INPUT: true; the input reads as it did. -/
def codeIntsSpec : ChangeSpec := { name := "codeInts", fn := fun _ => fun
  | [d1, d2] => { results := [.lit (.bool true)], args := [d1, d2] }
  | _ => none }
def codeIntsRow : OpenClaim := { program := "ytbkncfedahifkaa", sum := "16f2646e265b61e13dfc3ea038b1e02b5685648bff23197038201f47fe7247ef", func := "haversack/haversacklaw2.CodeInts", spec := "codeInts", unfollowed := true, recurses := true, apart := false }
def CodeIntsSaid : Prop := codeIntsRow.holds Try.pinned (OpenSpec.ofChange codeIntsSpec)

/-- ITS FALSE NEIGHBOUR: 'it returns false'. Refute it at one input. -/
def codeIntsWrong : ChangeSpec := { name := "codeInts", fn := fun _ => fun
  | [d1, d2] => { results := [.lit (.bool false)], args := [d1, d2] }
  | _ => none }
def CodeIntsWrongFalsely : Prop := codeIntsRow.holds Try.pinned (OpenSpec.ofChange codeIntsWrong)

/-- 'haversacklaw2.CodeWrites': WHATEVER THE INPUT: true; the input reads as it did. -/
def codeWritesSpec : ChangeSpec := { name := "codeWrites", fn := fun _ => fun
  | [d] => { results := [.lit (.bool true)], args := [d] }
  | _ => none }
def codeWritesRow : OpenClaim := { program := "ytbkncfedahifkaa", sum := "16f2646e265b61e13dfc3ea038b1e02b5685648bff23197038201f47fe7247ef", func := "haversack/haversacklaw2.CodeWrites", spec := "codeWrites", unfollowed := true, recurses := true, apart := false }
def CodeWritesSaid : Prop := codeWritesRow.holds Try.pinned (OpenSpec.ofChange codeWritesSpec)

/-- ITS FALSE NEIGHBOUR: 'it returns false'. Refute it at one input. -/
def codeWritesWrong : ChangeSpec := { name := "codeWrites", fn := fun _ => fun
  | [d] => { results := [.lit (.bool false)], args := [d] }
  | _ => none }
def CodeWritesWrongFalsely : Prop := codeWritesRow.holds Try.pinned (OpenSpec.ofChange codeWritesWrong)

/-- 'haversacklaw2.CodeTogether': WHATEVER THE INPUT: true; the input reads as it did. -/
def codeTogetherSpec : ChangeSpec := { name := "codeTogether", fn := fun _ => fun
  | [d1, d2, d3, d4] => { results := [.lit (.bool true)], args := [d1, d2, d3, d4] }
  | _ => none }
def codeTogetherRow : OpenClaim := { program := "ytbkncfedahifkaa", sum := "16f2646e265b61e13dfc3ea038b1e02b5685648bff23197038201f47fe7247ef", func := "haversack/haversacklaw2.CodeTogether", spec := "codeTogether", unfollowed := true, recurses := true, apart := false }
def CodeTogetherSaid : Prop := codeTogetherRow.holds Try.pinned (OpenSpec.ofChange codeTogetherSpec)

/-- ITS FALSE NEIGHBOUR: 'it returns false'. Refute it at one input. -/
def codeTogetherWrong : ChangeSpec := { name := "codeTogether", fn := fun _ => fun
  | [d1, d2, d3, d4] => { results := [.lit (.bool false)], args := [d1, d2, d3, d4] }
  | _ => none }
def CodeTogetherWrongFalsely : Prop := codeTogetherRow.holds Try.pinned (OpenSpec.ofChange codeTogetherWrong)

/-- 'haversacklaw2.CodeReads': WHATEVER THE INPUT: true; the input reads as it did. -/
def codeReadsSpec : ChangeSpec := { name := "codeReads", fn := fun _ => fun
  | [d1, d2, d3] => { results := [.lit (.bool true)], args := [d1, d2, d3] }
  | _ => none }
def codeReadsRow : OpenClaim := { program := "ytbkncfedahifkaa", sum := "16f2646e265b61e13dfc3ea038b1e02b5685648bff23197038201f47fe7247ef", func := "haversack/haversacklaw2.CodeReads", spec := "codeReads", unfollowed := true, recurses := true, apart := false }
def CodeReadsSaid : Prop := codeReadsRow.holds Try.pinned (OpenSpec.ofChange codeReadsSpec)

/-- ITS FALSE NEIGHBOUR: 'it returns false'. Refute it at one input. -/
def codeReadsWrong : ChangeSpec := { name := "codeReads", fn := fun _ => fun
  | [d1, d2, d3] => { results := [.lit (.bool false)], args := [d1, d2, d3] }
  | _ => none }
def CodeReadsWrongFalsely : Prop := codeReadsRow.holds Try.pinned (OpenSpec.ofChange codeReadsWrong)

/-- 'haversacklaw2.CodeBack': WHATEVER THE INPUT: true; the input reads as it did. -/
def codeBackSpec : ChangeSpec := { name := "codeBack", fn := fun _ => fun
  | [d] => { results := [.lit (.bool true)], args := [d] }
  | _ => none }
def codeBackRow : OpenClaim := { program := "ytbkncfedahifkaa", sum := "16f2646e265b61e13dfc3ea038b1e02b5685648bff23197038201f47fe7247ef", func := "haversack/haversacklaw2.CodeBack", spec := "codeBack", unfollowed := true, recurses := true, apart := false }
def CodeBackSaid : Prop := codeBackRow.holds Try.pinned (OpenSpec.ofChange codeBackSpec)

/-- ITS FALSE NEIGHBOUR: 'it returns false'. Refute it at one input. -/
def codeBackWrong : ChangeSpec := { name := "codeBack", fn := fun _ => fun
  | [d] => { results := [.lit (.bool false)], args := [d] }
  | _ => none }
def CodeBackWrongFalsely : Prop := codeBackRow.holds Try.pinned (OpenSpec.ofChange codeBackWrong)

/-- 'haversacklaw2.CodeCuts': WHATEVER THE INPUT: true; the input reads as it did. -/
def codeCutsSpec : ChangeSpec := { name := "codeCuts", fn := fun _ => fun
  | [d1, d2] => { results := [.lit (.bool true)], args := [d1, d2] }
  | _ => none }
def codeCutsRow : OpenClaim := { program := "ytbkncfedahifkaa", sum := "16f2646e265b61e13dfc3ea038b1e02b5685648bff23197038201f47fe7247ef", func := "haversack/haversacklaw2.CodeCuts", spec := "codeCuts", unfollowed := true, recurses := true, apart := false }
def CodeCutsSaid : Prop := codeCutsRow.holds Try.pinned (OpenSpec.ofChange codeCutsSpec)

/-- ITS FALSE NEIGHBOUR: 'it returns false'. Refute it at one input. -/
def codeCutsWrong : ChangeSpec := { name := "codeCuts", fn := fun _ => fun
  | [d1, d2] => { results := [.lit (.bool false)], args := [d1, d2] }
  | _ => none }
def CodeCutsWrongFalsely : Prop := codeCutsRow.holds Try.pinned (OpenSpec.ofChange codeCutsWrong)

/-- 'haversacklaw3.DiskBounds': WHATEVER THE INPUT: true; the input reads as it did. -/
def diskBoundsSpec : ChangeSpec := { name := "diskBounds", fn := fun _ => fun
  | [d1, d2] => { results := [.lit (.bool true)], args := [d1, d2] }
  | _ => none }
def diskBoundsRow : OpenClaim := { program := "ytbkncfedahifkaa", sum := "16f2646e265b61e13dfc3ea038b1e02b5685648bff23197038201f47fe7247ef", func := "haversack/haversacklaw3.DiskBounds", spec := "diskBounds", unfollowed := true, recurses := true, apart := false }
def DiskBoundsSaid : Prop := diskBoundsRow.holds Try.pinned (OpenSpec.ofChange diskBoundsSpec)

/-- ITS FALSE NEIGHBOUR: 'it returns false'. Refute it at one input. -/
def diskBoundsWrong : ChangeSpec := { name := "diskBounds", fn := fun _ => fun
  | [d1, d2] => { results := [.lit (.bool false)], args := [d1, d2] }
  | _ => none }
def DiskBoundsWrongFalsely : Prop := diskBoundsRow.holds Try.pinned (OpenSpec.ofChange diskBoundsWrong)

/-- 'haversacklaw3.DiskSure': WHATEVER THE INPUT: true; the input reads as it did. -/
def diskSureSpec : ChangeSpec := { name := "diskSure", fn := fun _ => fun
  | [d1, d2, d3, d4, d5] => { results := [.lit (.bool true)], args := [d1, d2, d3, d4, d5] }
  | _ => none }
def diskSureRow : OpenClaim := { program := "ytbkncfedahifkaa", sum := "16f2646e265b61e13dfc3ea038b1e02b5685648bff23197038201f47fe7247ef", func := "haversack/haversacklaw3.DiskSure", spec := "diskSure", unfollowed := true, recurses := true, apart := false }
def DiskSureSaid : Prop := diskSureRow.holds Try.pinned (OpenSpec.ofChange diskSureSpec)

/-- ITS FALSE NEIGHBOUR: 'it returns false'. Refute it at one input. -/
def diskSureWrong : ChangeSpec := { name := "diskSure", fn := fun _ => fun
  | [d1, d2, d3, d4, d5] => { results := [.lit (.bool false)], args := [d1, d2, d3, d4, d5] }
  | _ => none }
def DiskSureWrongFalsely : Prop := diskSureRow.holds Try.pinned (OpenSpec.ofChange diskSureWrong)

/-- 'haversacklaw3.DiskPlays': WHATEVER THE INPUT: true; the input reads as it did. -/
def diskPlaysSpec : ChangeSpec := { name := "diskPlays", fn := fun _ => fun
  | [d1, d2, d3] => { results := [.lit (.bool true)], args := [d1, d2, d3] }
  | _ => none }
def diskPlaysRow : OpenClaim := { program := "ytbkncfedahifkaa", sum := "16f2646e265b61e13dfc3ea038b1e02b5685648bff23197038201f47fe7247ef", func := "haversack/haversacklaw3.DiskPlays", spec := "diskPlays", unfollowed := true, recurses := true, apart := false }
def DiskPlaysSaid : Prop := diskPlaysRow.holds Try.pinned (OpenSpec.ofChange diskPlaysSpec)

/-- ITS FALSE NEIGHBOUR: 'it returns false'. Refute it at one input. -/
def diskPlaysWrong : ChangeSpec := { name := "diskPlays", fn := fun _ => fun
  | [d1, d2, d3] => { results := [.lit (.bool false)], args := [d1, d2, d3] }
  | _ => none }
def DiskPlaysWrongFalsely : Prop := diskPlaysRow.holds Try.pinned (OpenSpec.ofChange diskPlaysWrong)

/-- 'haversacklaw3.DiskCopies': WHATEVER THE INPUT: true; the input reads as it did. -/
def diskCopiesSpec : ChangeSpec := { name := "diskCopies", fn := fun _ => fun
  | [d1, d2] => { results := [.lit (.bool true)], args := [d1, d2] }
  | _ => none }
def diskCopiesRow : OpenClaim := { program := "ytbkncfedahifkaa", sum := "16f2646e265b61e13dfc3ea038b1e02b5685648bff23197038201f47fe7247ef", func := "haversack/haversacklaw3.DiskCopies", spec := "diskCopies", unfollowed := true, recurses := true, apart := false }
def DiskCopiesSaid : Prop := diskCopiesRow.holds Try.pinned (OpenSpec.ofChange diskCopiesSpec)

/-- ITS FALSE NEIGHBOUR: 'it returns false'. Refute it at one input. -/
def diskCopiesWrong : ChangeSpec := { name := "diskCopies", fn := fun _ => fun
  | [d1, d2] => { results := [.lit (.bool false)], args := [d1, d2] }
  | _ => none }
def DiskCopiesWrongFalsely : Prop := diskCopiesRow.holds Try.pinned (OpenSpec.ofChange diskCopiesWrong)

/-- 'haversacklaw4.WalForeign': WHATEVER THE INPUT: true; the input reads as it did. -/
def walForeignSpec : ChangeSpec := { name := "walForeign", fn := fun _ => fun
  | [d1, d2, d3] => { results := [.lit (.bool true)], args := [d1, d2, d3] }
  | _ => none }
def walForeignRow : OpenClaim := { program := "ytbkncfedahifkaa", sum := "16f2646e265b61e13dfc3ea038b1e02b5685648bff23197038201f47fe7247ef", func := "haversack/haversacklaw4.WalForeign", spec := "walForeign", unfollowed := true, recurses := true, apart := false }
def WalForeignSaid : Prop := walForeignRow.holds Try.pinned (OpenSpec.ofChange walForeignSpec)

/-- ITS FALSE NEIGHBOUR: 'it returns false'. Refute it at one input. -/
def walForeignWrong : ChangeSpec := { name := "walForeign", fn := fun _ => fun
  | [d1, d2, d3] => { results := [.lit (.bool false)], args := [d1, d2, d3] }
  | _ => none }
def WalForeignWrongFalsely : Prop := walForeignRow.holds Try.pinned (OpenSpec.ofChange walForeignWrong)

/-- 'haversacklaw4.WalTogether': WHATEVER THE INPUT: true; the input reads as it did. -/
def walTogetherSpec : ChangeSpec := { name := "walTogether", fn := fun _ => fun
  | [d1, d2] => { results := [.lit (.bool true)], args := [d1, d2] }
  | _ => none }
def walTogetherRow : OpenClaim := { program := "ytbkncfedahifkaa", sum := "16f2646e265b61e13dfc3ea038b1e02b5685648bff23197038201f47fe7247ef", func := "haversack/haversacklaw4.WalTogether", spec := "walTogether", unfollowed := true, recurses := true, apart := false }
def WalTogetherSaid : Prop := walTogetherRow.holds Try.pinned (OpenSpec.ofChange walTogetherSpec)

/-- ITS FALSE NEIGHBOUR: 'it returns false'. Refute it at one input. -/
def walTogetherWrong : ChangeSpec := { name := "walTogether", fn := fun _ => fun
  | [d1, d2] => { results := [.lit (.bool false)], args := [d1, d2] }
  | _ => none }
def WalTogetherWrongFalsely : Prop := walTogetherRow.holds Try.pinned (OpenSpec.ofChange walTogetherWrong)

/-- 'haversacklaw4.WalResets': WHATEVER THE INPUT: true; the input reads as it did. -/
def walResetsSpec : ChangeSpec := { name := "walResets", fn := fun _ => fun
  | [d1, d2] => { results := [.lit (.bool true)], args := [d1, d2] }
  | _ => none }
def walResetsRow : OpenClaim := { program := "ytbkncfedahifkaa", sum := "16f2646e265b61e13dfc3ea038b1e02b5685648bff23197038201f47fe7247ef", func := "haversack/haversacklaw4.WalResets", spec := "walResets", unfollowed := true, recurses := true, apart := false }
def WalResetsSaid : Prop := walResetsRow.holds Try.pinned (OpenSpec.ofChange walResetsSpec)

/-- ITS FALSE NEIGHBOUR: 'it returns false'. Refute it at one input. -/
def walResetsWrong : ChangeSpec := { name := "walResets", fn := fun _ => fun
  | [d1, d2] => { results := [.lit (.bool false)], args := [d1, d2] }
  | _ => none }
def WalResetsWrongFalsely : Prop := walResetsRow.holds Try.pinned (OpenSpec.ofChange walResetsWrong)

/-- 'haversacklaw4.WalGreat': WHATEVER THE INPUT: true; the input reads as it did. -/
def walGreatSpec : ChangeSpec := { name := "walGreat", fn := fun _ => fun
  | [d1, d2] => { results := [.lit (.bool true)], args := [d1, d2] }
  | _ => none }
def walGreatRow : OpenClaim := { program := "ytbkncfedahifkaa", sum := "16f2646e265b61e13dfc3ea038b1e02b5685648bff23197038201f47fe7247ef", func := "haversack/haversacklaw4.WalGreat", spec := "walGreat", unfollowed := true, recurses := true, apart := false }
def WalGreatSaid : Prop := walGreatRow.holds Try.pinned (OpenSpec.ofChange walGreatSpec)

/-- ITS FALSE NEIGHBOUR: 'it returns false'. Refute it at one input. -/
def walGreatWrong : ChangeSpec := { name := "walGreat", fn := fun _ => fun
  | [d1, d2] => { results := [.lit (.bool false)], args := [d1, d2] }
  | _ => none }
def WalGreatWrongFalsely : Prop := walGreatRow.holds Try.pinned (OpenSpec.ofChange walGreatWrong)

/-- 'haversacklaw4.WalKeeps': WHATEVER THE INPUT: true; the input reads as it did. -/
def walKeepsSpec : ChangeSpec := { name := "walKeeps", fn := fun _ => fun
  | [d1, d2] => { results := [.lit (.bool true)], args := [d1, d2] }
  | _ => none }
def walKeepsRow : OpenClaim := { program := "ytbkncfedahifkaa", sum := "16f2646e265b61e13dfc3ea038b1e02b5685648bff23197038201f47fe7247ef", func := "haversack/haversacklaw4.WalKeeps", spec := "walKeeps", unfollowed := true, recurses := true, apart := false }
def WalKeepsSaid : Prop := walKeepsRow.holds Try.pinned (OpenSpec.ofChange walKeepsSpec)

/-- ITS FALSE NEIGHBOUR: 'it returns false'. Refute it at one input. -/
def walKeepsWrong : ChangeSpec := { name := "walKeeps", fn := fun _ => fun
  | [d1, d2] => { results := [.lit (.bool false)], args := [d1, d2] }
  | _ => none }
def WalKeepsWrongFalsely : Prop := walKeepsRow.holds Try.pinned (OpenSpec.ofChange walKeepsWrong)

/- THE SECOND FORM. 'bulk': how many values and letters a reading holds, each counted each time it is reached (what is shared counts as often as it is met; a slice's spare places count too). A statement '..UptoSaid' is the law's where the arguments, and the package variables that the reading takes, are together of bulk at most 1048576: NARROWER than '..Said'. Prove '..Said' where nothing that the law and all that it calls make is longer than what came in: it says more and counts as full. Else prove '..UptoSaid'. A law counts once. -/
mutual
def uptoBulk {H : Type} : DataW H → Nat
  | .lit (.string bytes) => bytes.length + 1
  | .lit _ => 1
  | .nil => 1
  | .ptr d => uptoBulk d + 1
  | .slice elems spare => uptoBulkAll elems + uptoBulkAll spare + 1
  | .agg parts => uptoBulkAll parts + 1
  | .iface _ d => uptoBulk d + 1
  | .map entries => uptoBulkEntries entries + 1
  | .held _ => 1
def uptoBulkAll {H : Type} : List (DataW H) → Nat
  | [] => 0
  | d :: r => uptoBulk d + uptoBulkAll r
def uptoBulkEntries {H : Type} : List (Lit × DataW H) → Nat
  | [] => 0
  | x :: r => uptoBulkEntry x + uptoBulkEntries r
def uptoBulkEntry {H : Type} : Lit × DataW H → Nat
  | (.string bytes, d) => bytes.length + uptoBulk d + 1
  | (_, d) => uptoBulk d + 1
 end
def uptoSmall : (H : Type) → List (DataW H) → Bool := fun _ ds => decide (uptoBulkAll ds ≤ 1048576)
def OpenSpec.upto (s : _root_.Go.ChangeSpec) : _root_.Go.OpenSpec := { _root_.Go.OpenSpec.ofChange s with cond := some uptoSmall }

/-- 'haversacklaw2.CodeInts', WHERE WHAT IT READS IS OF BULK AT MOST 1048576: true; the input reads as it did. -/
def codeIntsUptoRow : OpenClaim := { program := "ytbkncfedahifkaa", sum := "16f2646e265b61e13dfc3ea038b1e02b5685648bff23197038201f47fe7247ef", func := "haversack/haversacklaw2.CodeInts", spec := "codeInts", unfollowed := true, recurses := true, apart := false, narrowed := true }
def CodeIntsUptoSaid : Prop := codeIntsUptoRow.holds Try.pinned (OpenSpec.upto codeIntsSpec)

/-- 'haversacklaw2.CodeWrites', WHERE WHAT IT READS IS OF BULK AT MOST 1048576: true; the input reads as it did. -/
def codeWritesUptoRow : OpenClaim := { program := "ytbkncfedahifkaa", sum := "16f2646e265b61e13dfc3ea038b1e02b5685648bff23197038201f47fe7247ef", func := "haversack/haversacklaw2.CodeWrites", spec := "codeWrites", unfollowed := true, recurses := true, apart := false, narrowed := true }
def CodeWritesUptoSaid : Prop := codeWritesUptoRow.holds Try.pinned (OpenSpec.upto codeWritesSpec)

/-- 'haversacklaw2.CodeTogether', WHERE WHAT IT READS IS OF BULK AT MOST 1048576: true; the input reads as it did. -/
def codeTogetherUptoRow : OpenClaim := { program := "ytbkncfedahifkaa", sum := "16f2646e265b61e13dfc3ea038b1e02b5685648bff23197038201f47fe7247ef", func := "haversack/haversacklaw2.CodeTogether", spec := "codeTogether", unfollowed := true, recurses := true, apart := false, narrowed := true }
def CodeTogetherUptoSaid : Prop := codeTogetherUptoRow.holds Try.pinned (OpenSpec.upto codeTogetherSpec)

/-- 'haversacklaw2.CodeReads', WHERE WHAT IT READS IS OF BULK AT MOST 1048576: true; the input reads as it did. -/
def codeReadsUptoRow : OpenClaim := { program := "ytbkncfedahifkaa", sum := "16f2646e265b61e13dfc3ea038b1e02b5685648bff23197038201f47fe7247ef", func := "haversack/haversacklaw2.CodeReads", spec := "codeReads", unfollowed := true, recurses := true, apart := false, narrowed := true }
def CodeReadsUptoSaid : Prop := codeReadsUptoRow.holds Try.pinned (OpenSpec.upto codeReadsSpec)

/-- 'haversacklaw2.CodeBack', WHERE WHAT IT READS IS OF BULK AT MOST 1048576: true; the input reads as it did. -/
def codeBackUptoRow : OpenClaim := { program := "ytbkncfedahifkaa", sum := "16f2646e265b61e13dfc3ea038b1e02b5685648bff23197038201f47fe7247ef", func := "haversack/haversacklaw2.CodeBack", spec := "codeBack", unfollowed := true, recurses := true, apart := false, narrowed := true }
def CodeBackUptoSaid : Prop := codeBackUptoRow.holds Try.pinned (OpenSpec.upto codeBackSpec)

/-- 'haversacklaw2.CodeCuts', WHERE WHAT IT READS IS OF BULK AT MOST 1048576: true; the input reads as it did. -/
def codeCutsUptoRow : OpenClaim := { program := "ytbkncfedahifkaa", sum := "16f2646e265b61e13dfc3ea038b1e02b5685648bff23197038201f47fe7247ef", func := "haversack/haversacklaw2.CodeCuts", spec := "codeCuts", unfollowed := true, recurses := true, apart := false, narrowed := true }
def CodeCutsUptoSaid : Prop := codeCutsUptoRow.holds Try.pinned (OpenSpec.upto codeCutsSpec)

/-- 'haversacklaw3.DiskBounds', WHERE WHAT IT READS IS OF BULK AT MOST 1048576: true; the input reads as it did. -/
def diskBoundsUptoRow : OpenClaim := { program := "ytbkncfedahifkaa", sum := "16f2646e265b61e13dfc3ea038b1e02b5685648bff23197038201f47fe7247ef", func := "haversack/haversacklaw3.DiskBounds", spec := "diskBounds", unfollowed := true, recurses := true, apart := false, narrowed := true }
def DiskBoundsUptoSaid : Prop := diskBoundsUptoRow.holds Try.pinned (OpenSpec.upto diskBoundsSpec)

/-- 'haversacklaw3.DiskSure', WHERE WHAT IT READS IS OF BULK AT MOST 1048576: true; the input reads as it did. -/
def diskSureUptoRow : OpenClaim := { program := "ytbkncfedahifkaa", sum := "16f2646e265b61e13dfc3ea038b1e02b5685648bff23197038201f47fe7247ef", func := "haversack/haversacklaw3.DiskSure", spec := "diskSure", unfollowed := true, recurses := true, apart := false, narrowed := true }
def DiskSureUptoSaid : Prop := diskSureUptoRow.holds Try.pinned (OpenSpec.upto diskSureSpec)

/-- 'haversacklaw3.DiskPlays', WHERE WHAT IT READS IS OF BULK AT MOST 1048576: true; the input reads as it did. -/
def diskPlaysUptoRow : OpenClaim := { program := "ytbkncfedahifkaa", sum := "16f2646e265b61e13dfc3ea038b1e02b5685648bff23197038201f47fe7247ef", func := "haversack/haversacklaw3.DiskPlays", spec := "diskPlays", unfollowed := true, recurses := true, apart := false, narrowed := true }
def DiskPlaysUptoSaid : Prop := diskPlaysUptoRow.holds Try.pinned (OpenSpec.upto diskPlaysSpec)

/-- 'haversacklaw3.DiskCopies', WHERE WHAT IT READS IS OF BULK AT MOST 1048576: true; the input reads as it did. -/
def diskCopiesUptoRow : OpenClaim := { program := "ytbkncfedahifkaa", sum := "16f2646e265b61e13dfc3ea038b1e02b5685648bff23197038201f47fe7247ef", func := "haversack/haversacklaw3.DiskCopies", spec := "diskCopies", unfollowed := true, recurses := true, apart := false, narrowed := true }
def DiskCopiesUptoSaid : Prop := diskCopiesUptoRow.holds Try.pinned (OpenSpec.upto diskCopiesSpec)

/-- 'haversacklaw4.WalForeign', WHERE WHAT IT READS IS OF BULK AT MOST 1048576: true; the input reads as it did. -/
def walForeignUptoRow : OpenClaim := { program := "ytbkncfedahifkaa", sum := "16f2646e265b61e13dfc3ea038b1e02b5685648bff23197038201f47fe7247ef", func := "haversack/haversacklaw4.WalForeign", spec := "walForeign", unfollowed := true, recurses := true, apart := false, narrowed := true }
def WalForeignUptoSaid : Prop := walForeignUptoRow.holds Try.pinned (OpenSpec.upto walForeignSpec)

/-- 'haversacklaw4.WalTogether', WHERE WHAT IT READS IS OF BULK AT MOST 1048576: true; the input reads as it did. -/
def walTogetherUptoRow : OpenClaim := { program := "ytbkncfedahifkaa", sum := "16f2646e265b61e13dfc3ea038b1e02b5685648bff23197038201f47fe7247ef", func := "haversack/haversacklaw4.WalTogether", spec := "walTogether", unfollowed := true, recurses := true, apart := false, narrowed := true }
def WalTogetherUptoSaid : Prop := walTogetherUptoRow.holds Try.pinned (OpenSpec.upto walTogetherSpec)

/-- 'haversacklaw4.WalResets', WHERE WHAT IT READS IS OF BULK AT MOST 1048576: true; the input reads as it did. -/
def walResetsUptoRow : OpenClaim := { program := "ytbkncfedahifkaa", sum := "16f2646e265b61e13dfc3ea038b1e02b5685648bff23197038201f47fe7247ef", func := "haversack/haversacklaw4.WalResets", spec := "walResets", unfollowed := true, recurses := true, apart := false, narrowed := true }
def WalResetsUptoSaid : Prop := walResetsUptoRow.holds Try.pinned (OpenSpec.upto walResetsSpec)

/-- 'haversacklaw4.WalGreat', WHERE WHAT IT READS IS OF BULK AT MOST 1048576: true; the input reads as it did. -/
def walGreatUptoRow : OpenClaim := { program := "ytbkncfedahifkaa", sum := "16f2646e265b61e13dfc3ea038b1e02b5685648bff23197038201f47fe7247ef", func := "haversack/haversacklaw4.WalGreat", spec := "walGreat", unfollowed := true, recurses := true, apart := false, narrowed := true }
def WalGreatUptoSaid : Prop := walGreatUptoRow.holds Try.pinned (OpenSpec.upto walGreatSpec)

/-- 'haversacklaw4.WalKeeps', WHERE WHAT IT READS IS OF BULK AT MOST 1048576: true; the input reads as it did. -/
def walKeepsUptoRow : OpenClaim := { program := "ytbkncfedahifkaa", sum := "16f2646e265b61e13dfc3ea038b1e02b5685648bff23197038201f47fe7247ef", func := "haversack/haversacklaw4.WalKeeps", spec := "walKeeps", unfollowed := true, recurses := true, apart := false, narrowed := true }
def WalKeepsUptoSaid : Prop := walKeepsUptoRow.holds Try.pinned (OpenSpec.upto walKeepsSpec)

end Rows
end Go.Proofs.Ytbkncfedahifkaa
