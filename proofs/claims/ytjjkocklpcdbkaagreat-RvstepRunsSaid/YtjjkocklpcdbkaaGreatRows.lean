/-
  No cell of these rows narrows 'for every input' (looked for: loops, veiled, ifaces, maps, wideKeys, modest, calm, conditions, laid).
  DERIVED. THE GIVEN ROWS OF THIS SEAT. 2 by the template 'for every input the law returns true; each argument reads behind the call as it read before'; 0 by the template 'total and deterministic' (their statements: YtjjkocklpcdbkaaGreatTotals.lean).
  GIVEN WITH THE SEED: the statements are not yours to turn. If you find one false, say at which input.
  Laid BY PROGRAM, IN A SANDBOX (cutbox-rows.mjs): the forced cells as the released guide's own fill.sh prints them over the translation 2457494dfdea78c9… (all of the seat's roots in one cut). By AI agents, Wed Nov 11 2026. No macro, syntax, notation, axiom, sorry.
-/
import Derived.Test.YtjjkocklpcdbkaaGreatChecked
import GoSem.Claim
import GoSem.ClaimJoined
import GoSem.ClaimMapViews
import Derived.JoinedTies
import Derived.KernelRfl
namespace Go.Proofs.YtjjkocklpcdbkaaGreat
/- THE CELL 'sum', in the pinned program and in every row, IS THE sha256 OF THE DUMP (.gsa) THAT YtjjkocklpcdbkaaGreatProg.lean LOADS. Nothing in Lean hashes anything: it is a label: what it is worth is what the hold of that sum in a sandbox is worth. -/
noncomputable def Tryz.pinned : Pinned := { name := "ytjjkocklpcdbkaagreat", sum := "2457494dfdea78c9c8610d8a47b72014ddaa23aca1c802c2bb91974f7de95274", checked := Tryz.checked }
namespace Rows
def none {H : Type} : Left H := { results := [], args := [] }

/-- 'twinshaftlaw04.RvstepSteps': WHATEVER THE INPUT: true; the input reads as it did. -/
def rvstepStepsSpec : ChangeSpec := { name := "rvstepSteps", fn := fun _ => fun
  | [d1, d2] => { results := [.lit (.bool true)], args := [d1, d2] }
  | _ => none }
def rvstepStepsRow : OpenClaim := { program := "ytjjkocklpcdbkaagreat", sum := "2457494dfdea78c9c8610d8a47b72014ddaa23aca1c802c2bb91974f7de95274", func := "twinshaft/twinshaftlaw04.RvstepSteps", spec := "rvstepSteps", unfollowed := true, recurses := true, apart := false }
def RvstepStepsSaid : Prop := rvstepStepsRow.holds Tryz.pinned (OpenSpec.ofChange rvstepStepsSpec)

/-- ITS FALSE NEIGHBOUR: 'it returns false'. Refute it at one input. -/
def rvstepStepsWrong : ChangeSpec := { name := "rvstepSteps", fn := fun _ => fun
  | [d1, d2] => { results := [.lit (.bool false)], args := [d1, d2] }
  | _ => none }
def RvstepStepsWrongFalsely : Prop := rvstepStepsRow.holds Tryz.pinned (OpenSpec.ofChange rvstepStepsWrong)

/-- 'twinshaftlaw04.RvstepRuns': WHATEVER THE INPUT: true; the input reads as it did. -/
def rvstepRunsSpec : ChangeSpec := { name := "rvstepRuns", fn := fun _ => fun
  | [d1, d2, d3, d4, d5, d6] => { results := [.lit (.bool true)], args := [d1, d2, d3, d4, d5, d6] }
  | _ => none }
def rvstepRunsRow : OpenClaim := { program := "ytjjkocklpcdbkaagreat", sum := "2457494dfdea78c9c8610d8a47b72014ddaa23aca1c802c2bb91974f7de95274", func := "twinshaft/twinshaftlaw04.RvstepRuns", spec := "rvstepRuns", unfollowed := true, recurses := true, apart := false }
def RvstepRunsSaid : Prop := rvstepRunsRow.holds Tryz.pinned (OpenSpec.ofChange rvstepRunsSpec)

/-- ITS FALSE NEIGHBOUR: 'it returns false'. Refute it at one input. -/
def rvstepRunsWrong : ChangeSpec := { name := "rvstepRuns", fn := fun _ => fun
  | [d1, d2, d3, d4, d5, d6] => { results := [.lit (.bool false)], args := [d1, d2, d3, d4, d5, d6] }
  | _ => none }
def RvstepRunsWrongFalsely : Prop := rvstepRunsRow.holds Tryz.pinned (OpenSpec.ofChange rvstepRunsWrong)

/- THE SECOND FORM. 'bulk': how many values and letters a reading holds, each counted each time it is reached (what is shared counts as often as it is met; a slice's spare places count too). A statement '..UptoSaid' is the law's where the arguments, and the package variables that the reading takes, are together of bulk at most 1048576: NARROWER than '..Said'. Prove '..Said' where nothing that the law and all that it calls make is longer than what came in: it says more and counts as full. Else prove '..UptoSaid'. A law counts once. -/
mutual
def uptoBulk {H : Type} : DataW H → Nat
  | .lit (.string bytes) => bytes.length + 1
  | .lit _ => 1
  | .nil => 1
  | .ptr d => uptoBulk d + 1
  | .slice elems spare => uptoBulkAll elems + uptoBulkAll spare + 1
  | .agg parts => uptoBulkAll parts + 1
  | .iface _ d => uptoBulk d + 1
  | .map entries => uptoBulkEntries entries + 1
  | .held _ => 1
def uptoBulkAll {H : Type} : List (DataW H) → Nat
  | [] => 0
  | d :: r => uptoBulk d + uptoBulkAll r
def uptoBulkEntries {H : Type} : List (Lit × DataW H) → Nat
  | [] => 0
  | x :: r => uptoBulkEntry x + uptoBulkEntries r
def uptoBulkEntry {H : Type} : Lit × DataW H → Nat
  | (.string bytes, d) => bytes.length + uptoBulk d + 1
  | (_, d) => uptoBulk d + 1
 end
def uptoSmall : (H : Type) → List (DataW H) → Bool := fun _ ds => decide (uptoBulkAll ds ≤ 1048576)
def OpenSpec.upto (s : _root_.Go.ChangeSpec) : _root_.Go.OpenSpec := { _root_.Go.OpenSpec.ofChange s with cond := some uptoSmall }

/-- 'twinshaftlaw04.RvstepSteps', WHERE WHAT IT READS IS OF BULK AT MOST 1048576: true; the input reads as it did. -/
def rvstepStepsUptoRow : OpenClaim := { program := "ytjjkocklpcdbkaagreat", sum := "2457494dfdea78c9c8610d8a47b72014ddaa23aca1c802c2bb91974f7de95274", func := "twinshaft/twinshaftlaw04.RvstepSteps", spec := "rvstepSteps", unfollowed := true, recurses := true, apart := false, narrowed := true }
def RvstepStepsUptoSaid : Prop := rvstepStepsUptoRow.holds Tryz.pinned (OpenSpec.upto rvstepStepsSpec)

/-- 'twinshaftlaw04.RvstepRuns', WHERE WHAT IT READS IS OF BULK AT MOST 1048576: true; the input reads as it did. -/
def rvstepRunsUptoRow : OpenClaim := { program := "ytjjkocklpcdbkaagreat", sum := "2457494dfdea78c9c8610d8a47b72014ddaa23aca1c802c2bb91974f7de95274", func := "twinshaft/twinshaftlaw04.RvstepRuns", spec := "rvstepRuns", unfollowed := true, recurses := true, apart := false, narrowed := true }
def RvstepRunsUptoSaid : Prop := rvstepRunsUptoRow.holds Tryz.pinned (OpenSpec.upto rvstepRunsSpec)

end Rows
end Go.Proofs.YtjjkocklpcdbkaaGreat
