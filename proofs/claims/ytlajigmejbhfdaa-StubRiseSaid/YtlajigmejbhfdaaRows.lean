/-
  No cell of these rows narrows 'for every input' (looked for: loops, veiled, ifaces, maps, wideKeys, modest, calm, conditions, laid).
  DERIVED. THE GIVEN ROWS OF THIS SEAT. 4 by the template 'for every input the law returns true; each argument reads behind the call as it read before'; 0 by the template 'total and deterministic' (their statements: YtlajigmejbhfdaaTotals.lean).
  GIVEN WITH THE SEED: the statements are not yours to turn. If you find one false, say at which input.
  Laid BY PROGRAM, IN A SANDBOX (cutbox-rows.mjs): the forced cells as the released guide's own fill.sh prints them over the translation cc6e39a23c1e3d19… (all of the seat's roots in one cut). By AI agents, Wed Nov 11 2026. No macro, syntax, notation, axiom, sorry.
-/
import Derived.Test.YtlajigmejbhfdaaChecked
import GoSem.Claim
import GoSem.ClaimJoined
import GoSem.ClaimMapViews
import Derived.JoinedTies
import Derived.KernelRfl
namespace Go.Proofs.Ytlajigmejbhfdaa
/- THE CELL 'sum', in the pinned program and in every row, IS THE sha256 OF THE DUMP (.gsa) THAT YtlajigmejbhfdaaProg.lean LOADS. Nothing in Lean hashes anything: it is a label: what it is worth is what the hold of that sum in a sandbox is worth. -/
noncomputable def Try.pinned : Pinned := { name := "ytlajigmejbhfdaa", sum := "cc6e39a23c1e3d19869d640d33de95638966c86c5851213c12c01e1a24746b72", checked := Try.checked }
namespace Rows
def none {H : Type} : Left H := { results := [], args := [] }

/-- 'twinshaftlaw17.StubRise': WHATEVER THE INPUT: true; the input reads as it did. -/
def stubRiseSpec : ChangeSpec := { name := "stubRise", fn := fun _ => fun
  | [d1, d2, d3, d4] => { results := [.lit (.bool true)], args := [d1, d2, d3, d4] }
  | _ => none }
def stubRiseRow : OpenClaim := { program := "ytlajigmejbhfdaa", sum := "cc6e39a23c1e3d19869d640d33de95638966c86c5851213c12c01e1a24746b72", func := "twinshaft/twinshaftlaw17.StubRise", spec := "stubRise", unfollowed := true, recurses := true, apart := false }
def StubRiseSaid : Prop := stubRiseRow.holds Try.pinned (OpenSpec.ofChange stubRiseSpec)

/-- ITS FALSE NEIGHBOUR: 'it returns false'. Refute it at one input. -/
def stubRiseWrong : ChangeSpec := { name := "stubRise", fn := fun _ => fun
  | [d1, d2, d3, d4] => { results := [.lit (.bool false)], args := [d1, d2, d3, d4] }
  | _ => none }
def StubRiseWrongFalsely : Prop := stubRiseRow.holds Try.pinned (OpenSpec.ofChange stubRiseWrong)

/-- 'twinshaftlaw17.StubTells': WHATEVER THE INPUT: true; the input reads as it did. -/
def stubTellsSpec : ChangeSpec := { name := "stubTells", fn := fun _ => fun
  | [d1, d2, d3] => { results := [.lit (.bool true)], args := [d1, d2, d3] }
  | _ => none }
def stubTellsRow : OpenClaim := { program := "ytlajigmejbhfdaa", sum := "cc6e39a23c1e3d19869d640d33de95638966c86c5851213c12c01e1a24746b72", func := "twinshaft/twinshaftlaw17.StubTells", spec := "stubTells", unfollowed := true, recurses := true, apart := false }
def StubTellsSaid : Prop := stubTellsRow.holds Try.pinned (OpenSpec.ofChange stubTellsSpec)

/-- ITS FALSE NEIGHBOUR: 'it returns false'. Refute it at one input. -/
def stubTellsWrong : ChangeSpec := { name := "stubTells", fn := fun _ => fun
  | [d1, d2, d3] => { results := [.lit (.bool false)], args := [d1, d2, d3] }
  | _ => none }
def StubTellsWrongFalsely : Prop := stubTellsRow.holds Try.pinned (OpenSpec.ofChange stubTellsWrong)

/-- 'twinshaftlaw17.StubKnown': WHATEVER THE INPUT: true; the input reads as it did. -/
def stubKnownSpec : ChangeSpec := { name := "stubKnown", fn := fun _ => fun
  | [] => { results := [.lit (.bool true)], args := [] }
  | _ => none }
def stubKnownRow : OpenClaim := { program := "ytlajigmejbhfdaa", sum := "cc6e39a23c1e3d19869d640d33de95638966c86c5851213c12c01e1a24746b72", func := "twinshaft/twinshaftlaw17.StubKnown", spec := "stubKnown", unfollowed := true, recurses := true, apart := false }
def StubKnownSaid : Prop := stubKnownRow.holds Try.pinned (OpenSpec.ofChange stubKnownSpec)

/-- ITS FALSE NEIGHBOUR: 'it returns false'. Refute it at one input. -/
def stubKnownWrong : ChangeSpec := { name := "stubKnown", fn := fun _ => fun
  | [] => { results := [.lit (.bool false)], args := [] }
  | _ => none }
def StubKnownWrongFalsely : Prop := stubKnownRow.holds Try.pinned (OpenSpec.ofChange stubKnownWrong)

/-- 'twinshaftlaw17.StubBack': WHATEVER THE INPUT: true; the input reads as it did. -/
def stubBackSpec : ChangeSpec := { name := "stubBack", fn := fun _ => fun
  | [d1, d2, d3, d4, d5] => { results := [.lit (.bool true)], args := [d1, d2, d3, d4, d5] }
  | _ => none }
def stubBackRow : OpenClaim := { program := "ytlajigmejbhfdaa", sum := "cc6e39a23c1e3d19869d640d33de95638966c86c5851213c12c01e1a24746b72", func := "twinshaft/twinshaftlaw17.StubBack", spec := "stubBack", unfollowed := true, recurses := true, apart := false }
def StubBackSaid : Prop := stubBackRow.holds Try.pinned (OpenSpec.ofChange stubBackSpec)

/-- ITS FALSE NEIGHBOUR: 'it returns false'. Refute it at one input. -/
def stubBackWrong : ChangeSpec := { name := "stubBack", fn := fun _ => fun
  | [d1, d2, d3, d4, d5] => { results := [.lit (.bool false)], args := [d1, d2, d3, d4, d5] }
  | _ => none }
def StubBackWrongFalsely : Prop := stubBackRow.holds Try.pinned (OpenSpec.ofChange stubBackWrong)

/- THE SECOND FORM. 'bulk': how many values and letters a reading holds, each counted each time it is reached (what is shared counts as often as it is met; a slice's spare places count too). A statement '..UptoSaid' is the law's where the arguments, and the package variables that the reading takes, are together of bulk at most 1048576: NARROWER than '..Said'. Prove '..Said' where nothing that the law and all that it calls make is longer than what came in: it says more and counts as full. Else prove '..UptoSaid'. A law counts once. -/
mutual
def uptoBulk {H : Type} : DataW H → Nat
  | .lit (.string bytes) => bytes.length + 1
  | .lit _ => 1
  | .nil => 1
  | .ptr d => uptoBulk d + 1
  | .slice elems spare => uptoBulkAll elems + uptoBulkAll spare + 1
  | .agg parts => uptoBulkAll parts + 1
  | .iface _ d => uptoBulk d + 1
  | .map entries => uptoBulkEntries entries + 1
  | .held _ => 1
def uptoBulkAll {H : Type} : List (DataW H) → Nat
  | [] => 0
  | d :: r => uptoBulk d + uptoBulkAll r
def uptoBulkEntries {H : Type} : List (Lit × DataW H) → Nat
  | [] => 0
  | x :: r => uptoBulkEntry x + uptoBulkEntries r
def uptoBulkEntry {H : Type} : Lit × DataW H → Nat
  | (.string bytes, d) => bytes.length + uptoBulk d + 1
  | (_, d) => uptoBulk d + 1
 end
def uptoSmall : (H : Type) → List (DataW H) → Bool := fun _ ds => decide (uptoBulkAll ds ≤ 1048576)
def OpenSpec.upto (s : _root_.Go.ChangeSpec) : _root_.Go.OpenSpec := { _root_.Go.OpenSpec.ofChange s with cond := some uptoSmall }

/-- 'twinshaftlaw17.StubRise', WHERE WHAT IT READS IS OF BULK AT MOST 1048576: true; the input reads as it did. -/
def stubRiseUptoRow : OpenClaim := { program := "ytlajigmejbhfdaa", sum := "cc6e39a23c1e3d19869d640d33de95638966c86c5851213c12c01e1a24746b72", func := "twinshaft/twinshaftlaw17.StubRise", spec := "stubRise", unfollowed := true, recurses := true, apart := false, narrowed := true }
def StubRiseUptoSaid : Prop := stubRiseUptoRow.holds Try.pinned (OpenSpec.upto stubRiseSpec)

/-- 'twinshaftlaw17.StubTells', WHERE WHAT IT READS IS OF BULK AT MOST 1048576: true; the input reads as it did. -/
def stubTellsUptoRow : OpenClaim := { program := "ytlajigmejbhfdaa", sum := "cc6e39a23c1e3d19869d640d33de95638966c86c5851213c12c01e1a24746b72", func := "twinshaft/twinshaftlaw17.StubTells", spec := "stubTells", unfollowed := true, recurses := true, apart := false, narrowed := true }
def StubTellsUptoSaid : Prop := stubTellsUptoRow.holds Try.pinned (OpenSpec.upto stubTellsSpec)

/-- 'twinshaftlaw17.StubKnown', WHERE WHAT IT READS IS OF BULK AT MOST 1048576: true; the input reads as it did. -/
def stubKnownUptoRow : OpenClaim := { program := "ytlajigmejbhfdaa", sum := "cc6e39a23c1e3d19869d640d33de95638966c86c5851213c12c01e1a24746b72", func := "twinshaft/twinshaftlaw17.StubKnown", spec := "stubKnown", unfollowed := true, recurses := true, apart := false, narrowed := true }
def StubKnownUptoSaid : Prop := stubKnownUptoRow.holds Try.pinned (OpenSpec.upto stubKnownSpec)

/-- 'twinshaftlaw17.StubBack', WHERE WHAT IT READS IS OF BULK AT MOST 1048576: true; the input reads as it did. -/
def stubBackUptoRow : OpenClaim := { program := "ytlajigmejbhfdaa", sum := "cc6e39a23c1e3d19869d640d33de95638966c86c5851213c12c01e1a24746b72", func := "twinshaft/twinshaftlaw17.StubBack", spec := "stubBack", unfollowed := true, recurses := true, apart := false, narrowed := true }
def StubBackUptoSaid : Prop := stubBackUptoRow.holds Try.pinned (OpenSpec.upto stubBackSpec)

end Rows
end Go.Proofs.Ytlajigmejbhfdaa
