/-
  DiskSure, for every integer.
-/
import Derived.Test.YtbkncfedahifkaaDiskSure
namespace Go.Proofs.Ytbkncfedahifkaa
open Go.RowKit Go.Maps

theorem disk_sure (A0 : Option Addr) (n0 c0 : Nat) (la : List UInt8) (A1 : Option Addr) (n1 c1 : Nat) (lb : List UInt8) (keep torn at_ : Int) (w : World) (hr0 : RdB w A0 n0 c0 la) (hr1 : RdB w A1 n1 c1 lb)
    (hk0 : 0 ≤ keep) (hk1 : keep ≤ 18446744073709551615) (ht0 : -9223372036854775808 ≤ torn) (ht1 : torn ≤ 9223372036854775807) (ha0 : -9223372036854775808 ≤ at_) (ha1 : at_ ≤ 9223372036854775807) :
    Calls Try.prog 10 #[.slice A0 n0 c0, .slice A1 n1 c1, .int .u64 keep, .int .i64 torn, .int .i64 at_] w fun e w' => e = .returned (.bool true) ∧ Ch [] w w' := by
  obtain ⟨k, rfl⟩ : ∃ k : Nat, keep = (k : Int) := ⟨keep.toNat, by omega⟩
  exact disk_sure_n A0 A1 n0 c0 n1 c1 la lb k torn at_ w hr0 hr1 (by omega) ht0 ht1 ha0 ha1

end Go.Proofs.Ytbkncfedahifkaa
