/- AsmShort, walked, over what came in. -/
import Derived.Test.YtbcflhpaafpndaaAsShort
import Derived.Test.YtbcflhpaafpndaaAsCome
namespace Go.Proofs.Ytbcflhpaafpndaa
open Go.RowKit
theorem short_walk (a0 : Option Addr) (len0 cap0 : Nat) (xs0 : Nat → kt.Ln) (a1 : Int) (w : World) (w0 : kt.LinesC w a0 len0 cap0 xs0) (w1 : (Lit.int .i64 a1).wf = true) :
    Calls Try.prog 5 #[.slice a0 len0 cap0, .int .i64 a1] w fun e w' => e = .returned (.bool true) ∧ Below w.heap.size w w' :=
  short_any a0 len0 cap0 xs0 a1 w w0.2.2 w0.1 w0.2.1 (bl.wf_i64 w1)
end Go.Proofs.Ytbcflhpaafpndaa
