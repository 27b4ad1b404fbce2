/-
  No cell of these rows narrows 'for every input' (looked for: loops, veiled, ifaces, maps, wideKeys, modest, calm, conditions, laid).
  DERIVED. THE GIVEN ROWS OF THIS SEAT. 7 by the template 'for every input the law returns true; each argument reads behind the call as it read before'; 0 by the template 'total and deterministic' (their statements: YtbfoooplhpikjaaTotals.lean).
  GIVEN WITH THE SEED: the statements are not yours to turn. If you find one false, say at which input.
  Laid BY PROGRAM, IN A SANDBOX (cutbox-rows.mjs): the forced cells as the released guide's own fill.sh prints them over the translation 5ffffab077210199… (all of the seat's roots in one cut). By AI agents, Wed Nov 11 2026. No macro, syntax, notation, axiom, sorry.
-/
import Derived.Test.YtbfoooplhpikjaaChecked
import GoSem.Claim
import GoSem.ClaimJoined
import GoSem.ClaimMapViews
import Derived.JoinedTies
import Derived.KernelRfl
namespace Go.Proofs.Ytbfoooplhpikjaa
/- THE CELL 'sum', in the pinned program and in every row, IS THE sha256 OF THE DUMP (.gsa) THAT YtbfoooplhpikjaaProg.lean LOADS. Nothing in Lean hashes anything: it is a label: what it is worth is what the hold of that sum in a sandbox is worth. -/
noncomputable def Try.pinned : Pinned := { name := "ytbfoooplhpikjaa", sum := "5ffffab077210199451d36edf70dd65066b72e11f7137e160c8c9f122cac9fd7", checked := Try.checked }
namespace Rows
def none {H : Type} : Left H := { results := [], args := [] }

/-- 'twinshaftlaw03.RvcodeDecodes': WHATEVER THE INPUT: true; the input reads as it did. -/
def rvcodeDecodesSpec : ChangeSpec := { name := "rvcodeDecodes", fn := fun _ => fun
  | [d] => { results := [.lit (.bool true)], args := [d] }
  | _ => none }
def rvcodeDecodesRow : OpenClaim := { program := "ytbfoooplhpikjaa", sum := "5ffffab077210199451d36edf70dd65066b72e11f7137e160c8c9f122cac9fd7", func := "twinshaft/twinshaftlaw03.RvcodeDecodes", spec := "rvcodeDecodes", unfollowed := true, recurses := true, apart := false }
def RvcodeDecodesSaid : Prop := rvcodeDecodesRow.holds Try.pinned (OpenSpec.ofChange rvcodeDecodesSpec)

/-- ITS FALSE NEIGHBOUR: 'it returns false'. Refute it at one input. -/
def rvcodeDecodesWrong : ChangeSpec := { name := "rvcodeDecodes", fn := fun _ => fun
  | [d] => { results := [.lit (.bool false)], args := [d] }
  | _ => none }
def RvcodeDecodesWrongFalsely : Prop := rvcodeDecodesRow.holds Try.pinned (OpenSpec.ofChange rvcodeDecodesWrong)

/-- 'twinshaftlaw03.RvcodeFields': WHATEVER THE INPUT: true; the input reads as it did. -/
def rvcodeFieldsSpec : ChangeSpec := { name := "rvcodeFields", fn := fun _ => fun
  | [d1, d2] => { results := [.lit (.bool true)], args := [d1, d2] }
  | _ => none }
def rvcodeFieldsRow : OpenClaim := { program := "ytbfoooplhpikjaa", sum := "5ffffab077210199451d36edf70dd65066b72e11f7137e160c8c9f122cac9fd7", func := "twinshaft/twinshaftlaw03.RvcodeFields", spec := "rvcodeFields", unfollowed := true, recurses := true, apart := false }
def RvcodeFieldsSaid : Prop := rvcodeFieldsRow.holds Try.pinned (OpenSpec.ofChange rvcodeFieldsSpec)

/-- ITS FALSE NEIGHBOUR: 'it returns false'. Refute it at one input. -/
def rvcodeFieldsWrong : ChangeSpec := { name := "rvcodeFields", fn := fun _ => fun
  | [d1, d2] => { results := [.lit (.bool false)], args := [d1, d2] }
  | _ => none }
def RvcodeFieldsWrongFalsely : Prop := rvcodeFieldsRow.holds Try.pinned (OpenSpec.ofChange rvcodeFieldsWrong)

/-- 'twinshaftlaw03.RvcodeAgain': WHATEVER THE INPUT: true; the input reads as it did. -/
def rvcodeAgainSpec : ChangeSpec := { name := "rvcodeAgain", fn := fun _ => fun
  | [d] => { results := [.lit (.bool true)], args := [d] }
  | _ => none }
def rvcodeAgainRow : OpenClaim := { program := "ytbfoooplhpikjaa", sum := "5ffffab077210199451d36edf70dd65066b72e11f7137e160c8c9f122cac9fd7", func := "twinshaft/twinshaftlaw03.RvcodeAgain", spec := "rvcodeAgain", unfollowed := true, recurses := true, apart := false }
def RvcodeAgainSaid : Prop := rvcodeAgainRow.holds Try.pinned (OpenSpec.ofChange rvcodeAgainSpec)

/-- ITS FALSE NEIGHBOUR: 'it returns false'. Refute it at one input. -/
def rvcodeAgainWrong : ChangeSpec := { name := "rvcodeAgain", fn := fun _ => fun
  | [d] => { results := [.lit (.bool false)], args := [d] }
  | _ => none }
def RvcodeAgainWrongFalsely : Prop := rvcodeAgainRow.holds Try.pinned (OpenSpec.ofChange rvcodeAgainWrong)

/-- 'twinshaftlaw03.RvcodeEncodes': WHATEVER THE INPUT: true; the input reads as it did. -/
def rvcodeEncodesSpec : ChangeSpec := { name := "rvcodeEncodes", fn := fun _ => fun
  | [d] => { results := [.lit (.bool true)], args := [d] }
  | _ => none }
def rvcodeEncodesRow : OpenClaim := { program := "ytbfoooplhpikjaa", sum := "5ffffab077210199451d36edf70dd65066b72e11f7137e160c8c9f122cac9fd7", func := "twinshaft/twinshaftlaw03.RvcodeEncodes", spec := "rvcodeEncodes", unfollowed := true, recurses := true, apart := false }
def RvcodeEncodesSaid : Prop := rvcodeEncodesRow.holds Try.pinned (OpenSpec.ofChange rvcodeEncodesSpec)

/-- ITS FALSE NEIGHBOUR: 'it returns false'. Refute it at one input. -/
def rvcodeEncodesWrong : ChangeSpec := { name := "rvcodeEncodes", fn := fun _ => fun
  | [d] => { results := [.lit (.bool false)], args := [d] }
  | _ => none }
def RvcodeEncodesWrongFalsely : Prop := rvcodeEncodesRow.holds Try.pinned (OpenSpec.ofChange rvcodeEncodesWrong)

/-- 'twinshaftlaw03.RvcodeKnown': WHATEVER THE INPUT: true; the input reads as it did. -/
def rvcodeKnownSpec : ChangeSpec := { name := "rvcodeKnown", fn := fun _ => fun
  | [] => { results := [.lit (.bool true)], args := [] }
  | _ => none }
def rvcodeKnownRow : OpenClaim := { program := "ytbfoooplhpikjaa", sum := "5ffffab077210199451d36edf70dd65066b72e11f7137e160c8c9f122cac9fd7", func := "twinshaft/twinshaftlaw03.RvcodeKnown", spec := "rvcodeKnown", unfollowed := true, recurses := true, apart := false }
def RvcodeKnownSaid : Prop := rvcodeKnownRow.holds Try.pinned (OpenSpec.ofChange rvcodeKnownSpec)

/-- ITS FALSE NEIGHBOUR: 'it returns false'. Refute it at one input. -/
def rvcodeKnownWrong : ChangeSpec := { name := "rvcodeKnown", fn := fun _ => fun
  | [] => { results := [.lit (.bool false)], args := [] }
  | _ => none }
def RvcodeKnownWrongFalsely : Prop := rvcodeKnownRow.holds Try.pinned (OpenSpec.ofChange rvcodeKnownWrong)

/-- 'twinshaftlaw03.RvcodeBack': WHATEVER THE INPUT: true; the input reads as it did. -/
def rvcodeBackSpec : ChangeSpec := { name := "rvcodeBack", fn := fun _ => fun
  | [d] => { results := [.lit (.bool true)], args := [d] }
  | _ => none }
def rvcodeBackRow : OpenClaim := { program := "ytbfoooplhpikjaa", sum := "5ffffab077210199451d36edf70dd65066b72e11f7137e160c8c9f122cac9fd7", func := "twinshaft/twinshaftlaw03.RvcodeBack", spec := "rvcodeBack", unfollowed := true, recurses := true, apart := false }
def RvcodeBackSaid : Prop := rvcodeBackRow.holds Try.pinned (OpenSpec.ofChange rvcodeBackSpec)

/-- ITS FALSE NEIGHBOUR: 'it returns false'. Refute it at one input. -/
def rvcodeBackWrong : ChangeSpec := { name := "rvcodeBack", fn := fun _ => fun
  | [d] => { results := [.lit (.bool false)], args := [d] }
  | _ => none }
def RvcodeBackWrongFalsely : Prop := rvcodeBackRow.holds Try.pinned (OpenSpec.ofChange rvcodeBackWrong)

/-- 'twinshaftlaw03.RvcodeNames': WHATEVER THE INPUT: true; the input reads as it did. -/
def rvcodeNamesSpec : ChangeSpec := { name := "rvcodeNames", fn := fun _ => fun
  | [d1, d2] => { results := [.lit (.bool true)], args := [d1, d2] }
  | _ => none }
def rvcodeNamesRow : OpenClaim := { program := "ytbfoooplhpikjaa", sum := "5ffffab077210199451d36edf70dd65066b72e11f7137e160c8c9f122cac9fd7", func := "twinshaft/twinshaftlaw03.RvcodeNames", spec := "rvcodeNames", unfollowed := true, recurses := true, apart := false }
def RvcodeNamesSaid : Prop := rvcodeNamesRow.holds Try.pinned (OpenSpec.ofChange rvcodeNamesSpec)

/-- ITS FALSE NEIGHBOUR: 'it returns false'. Refute it at one input. -/
def rvcodeNamesWrong : ChangeSpec := { name := "rvcodeNames", fn := fun _ => fun
  | [d1, d2] => { results := [.lit (.bool false)], args := [d1, d2] }
  | _ => none }
def RvcodeNamesWrongFalsely : Prop := rvcodeNamesRow.holds Try.pinned (OpenSpec.ofChange rvcodeNamesWrong)

/- THE SECOND FORM. 'bulk': how many values and letters a reading holds, each counted each time it is reached (what is shared counts as often as it is met; a slice's spare places count too). A statement '..UptoSaid' is the law's where the arguments, and the package variables that the reading takes, are together of bulk at most 1048576: NARROWER than '..Said'. Prove '..Said' where nothing that the law and all that it calls make is longer than what came in: it says more and counts as full. Else prove '..UptoSaid'. A law counts once. -/
mutual
def uptoBulk {H : Type} : DataW H → Nat
  | .lit (.string bytes) => bytes.length + 1
  | .lit _ => 1
  | .nil => 1
  | .ptr d => uptoBulk d + 1
  | .slice elems spare => uptoBulkAll elems + uptoBulkAll spare + 1
  | .agg parts => uptoBulkAll parts + 1
  | .iface _ d => uptoBulk d + 1
  | .map entries => uptoBulkEntries entries + 1
  | .held _ => 1
def uptoBulkAll {H : Type} : List (DataW H) → Nat
  | [] => 0
  | d :: r => uptoBulk d + uptoBulkAll r
def uptoBulkEntries {H : Type} : List (Lit × DataW H) → Nat
  | [] => 0
  | x :: r => uptoBulkEntry x + uptoBulkEntries r
def uptoBulkEntry {H : Type} : Lit × DataW H → Nat
  | (.string bytes, d) => bytes.length + uptoBulk d + 1
  | (_, d) => uptoBulk d + 1
 end
def uptoSmall : (H : Type) → List (DataW H) → Bool := fun _ ds => decide (uptoBulkAll ds ≤ 1048576)
def OpenSpec.upto (s : _root_.Go.ChangeSpec) : _root_.Go.OpenSpec := { _root_.Go.OpenSpec.ofChange s with cond := some uptoSmall }

/-- 'twinshaftlaw03.RvcodeDecodes', WHERE WHAT IT READS IS OF BULK AT MOST 1048576: true; the input reads as it did. -/
def rvcodeDecodesUptoRow : OpenClaim := { program := "ytbfoooplhpikjaa", sum := "5ffffab077210199451d36edf70dd65066b72e11f7137e160c8c9f122cac9fd7", func := "twinshaft/twinshaftlaw03.RvcodeDecodes", spec := "rvcodeDecodes", unfollowed := true, recurses := true, apart := false, narrowed := true }
def RvcodeDecodesUptoSaid : Prop := rvcodeDecodesUptoRow.holds Try.pinned (OpenSpec.upto rvcodeDecodesSpec)

/-- 'twinshaftlaw03.RvcodeFields', WHERE WHAT IT READS IS OF BULK AT MOST 1048576: true; the input reads as it did. -/
def rvcodeFieldsUptoRow : OpenClaim := { program := "ytbfoooplhpikjaa", sum := "5ffffab077210199451d36edf70dd65066b72e11f7137e160c8c9f122cac9fd7", func := "twinshaft/twinshaftlaw03.RvcodeFields", spec := "rvcodeFields", unfollowed := true, recurses := true, apart := false, narrowed := true }
def RvcodeFieldsUptoSaid : Prop := rvcodeFieldsUptoRow.holds Try.pinned (OpenSpec.upto rvcodeFieldsSpec)

/-- 'twinshaftlaw03.RvcodeAgain', WHERE WHAT IT READS IS OF BULK AT MOST 1048576: true; the input reads as it did. -/
def rvcodeAgainUptoRow : OpenClaim := { program := "ytbfoooplhpikjaa", sum := "5ffffab077210199451d36edf70dd65066b72e11f7137e160c8c9f122cac9fd7", func := "twinshaft/twinshaftlaw03.RvcodeAgain", spec := "rvcodeAgain", unfollowed := true, recurses := true, apart := false, narrowed := true }
def RvcodeAgainUptoSaid : Prop := rvcodeAgainUptoRow.holds Try.pinned (OpenSpec.upto rvcodeAgainSpec)

/-- 'twinshaftlaw03.RvcodeEncodes', WHERE WHAT IT READS IS OF BULK AT MOST 1048576: true; the input reads as it did. -/
def rvcodeEncodesUptoRow : OpenClaim := { program := "ytbfoooplhpikjaa", sum := "5ffffab077210199451d36edf70dd65066b72e11f7137e160c8c9f122cac9fd7", func := "twinshaft/twinshaftlaw03.RvcodeEncodes", spec := "rvcodeEncodes", unfollowed := true, recurses := true, apart := false, narrowed := true }
def RvcodeEncodesUptoSaid : Prop := rvcodeEncodesUptoRow.holds Try.pinned (OpenSpec.upto rvcodeEncodesSpec)

/-- 'twinshaftlaw03.RvcodeKnown', WHERE WHAT IT READS IS OF BULK AT MOST 1048576: true; the input reads as it did. -/
def rvcodeKnownUptoRow : OpenClaim := { program := "ytbfoooplhpikjaa", sum := "5ffffab077210199451d36edf70dd65066b72e11f7137e160c8c9f122cac9fd7", func := "twinshaft/twinshaftlaw03.RvcodeKnown", spec := "rvcodeKnown", unfollowed := true, recurses := true, apart := false, narrowed := true }
def RvcodeKnownUptoSaid : Prop := rvcodeKnownUptoRow.holds Try.pinned (OpenSpec.upto rvcodeKnownSpec)

/-- 'twinshaftlaw03.RvcodeBack', WHERE WHAT IT READS IS OF BULK AT MOST 1048576: true; the input reads as it did. -/
def rvcodeBackUptoRow : OpenClaim := { program := "ytbfoooplhpikjaa", sum := "5ffffab077210199451d36edf70dd65066b72e11f7137e160c8c9f122cac9fd7", func := "twinshaft/twinshaftlaw03.RvcodeBack", spec := "rvcodeBack", unfollowed := true, recurses := true, apart := false, narrowed := true }
def RvcodeBackUptoSaid : Prop := rvcodeBackUptoRow.holds Try.pinned (OpenSpec.upto rvcodeBackSpec)

/-- 'twinshaftlaw03.RvcodeNames', WHERE WHAT IT READS IS OF BULK AT MOST 1048576: true; the input reads as it did. -/
def rvcodeNamesUptoRow : OpenClaim := { program := "ytbfoooplhpikjaa", sum := "5ffffab077210199451d36edf70dd65066b72e11f7137e160c8c9f122cac9fd7", func := "twinshaft/twinshaftlaw03.RvcodeNames", spec := "rvcodeNames", unfollowed := true, recurses := true, apart := false, narrowed := true }
def RvcodeNamesUptoSaid : Prop := rvcodeNamesUptoRow.holds Try.pinned (OpenSpec.upto rvcodeNamesSpec)

end Rows
end Go.Proofs.Ytbfoooplhpikjaa
