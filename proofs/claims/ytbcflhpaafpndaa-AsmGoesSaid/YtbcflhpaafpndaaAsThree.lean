/- Three lines: a label, nothing, a branch: in plain words. -/
import Derived.Test.YtbcflhpaafpndaaAsAsm
namespace Go.Proofs.Ytbcflhpaafpndaa
open Go.RowKit
set_option linter.unusedVariables false
namespace al
open kt
def branchL : Ln := ⟨2, 1, 5, 0, 1, 2, 0⟩
def labelL (x : Int) : Ln := ⟨1, x, 0, 0, 0, 0, 0⟩
def nothingL : Ln := ⟨0, 0, 22, 0, 0, 0, 0⟩
def ls3 : Nat → Ln
  | 0 => labelL 1
  | 1 => nothingL
  | _ => branchL
theorem check3 : check ls3 3 = 0 := by decide +kernel
theorem place3 : (List.range 4).map (place ls3 (farE ls3 3)) = [0, 0, 1, 2] := by decide +kernel
theorem inss3 : inss ls3 3 (farE ls3 3) 3 = [⟨22, 0, 0, 0, 0⟩, ⟨5, 0, 1, 2, -4⟩] := by
  have f1 : farE ls3 3 1 = false := by decide +kernel
  have f2 : farE ls3 3 2 = false := by decide +kernel
  have d2 : dist ls3 3 (farE ls3 3) 2 = -4 := by decide +kernel
  show (([] ++ insOf ls3 3 (farE ls3 3) 0) ++ insOf ls3 3 (farE ls3 3) 1) ++ insOf ls3 3 (farE ls3 3) 2 = _
  unfold insOf
  rw [f1, f2, d2]
  rfl
end al
end Go.Proofs.Ytbcflhpaafpndaa
