/- MemKeeps, walked, over what came in. -/
import Derived.Test.YtkohmoekomegnaaMemKeepsAll
import Derived.Test.YtkohmoekomegnaaMemCome
namespace Go.Proofs.Ytkohmoekomegnaa
open Go.RowKit
theorem keeps_walk (a0 : Int) (a1 : Option Addr) (len1 cap1 : Nat) (xs1 : Nat → kt.Act) (a2 a3 a4 : Int) (w : World) (w0 : (Lit.int .i64 a0).wf = true) (w1 : kt.Acts w a1 len1 xs1) (w2 : (Lit.int .u64 a2).wf = true) (w3 : (Lit.int .i64 a3).wf = true) (w4 : (Lit.int .u64 a4).wf = true) :
    Calls Try.prog 5 #[.int .i64 a0, .slice a1 len1 cap1, .int .u64 a2, .int .i64 a3, .int .u64 a4] w fun e w' => e = .returned (.bool true) ∧ Below w.heap.size w w' :=
  keeps_core a1 len1 cap1 xs1 a0 a2 a3 a4 w w1 (bl.wf_i64 w0).1 (bl.wf_i64 w0).2 (bl.wf_u64 w2).1 (bl.wf_u64 w2).2 (bl.wf_i64 w3).1 (bl.wf_i64 w3).2 (bl.wf_u64 w4).1 (bl.wf_u64 w4).2
end Go.Proofs.Ytkohmoekomegnaa
