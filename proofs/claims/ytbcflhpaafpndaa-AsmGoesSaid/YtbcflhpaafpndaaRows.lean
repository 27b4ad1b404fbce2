/-
  No cell of these rows narrows 'for every input' (looked for: loops, veiled, ifaces, maps, wideKeys, modest, calm, conditions, laid).
  DERIVED. THE GIVEN ROWS OF THIS SEAT. 4 by the template 'for every input the law returns true; each argument reads behind the call as it read before'; 0 by the template 'total and deterministic' (their statements: YtbcflhpaafpndaaTotals.lean).
  GIVEN WITH THE SEED: the statements are not yours to turn. If you find one false, say at which input.
  Laid BY PROGRAM, IN A SANDBOX (cutbox-rows.mjs): the forced cells as the released guide's own fill.sh prints them over the translation a0845ed8ec8fb2cb… (all of the seat's roots in one cut). By AI agents, Wed Nov 11 2026. No macro, syntax, notation, axiom, sorry.
-/
import Derived.Test.YtbcflhpaafpndaaChecked
import GoSem.Claim
import GoSem.ClaimJoined
import GoSem.ClaimMapViews
import Derived.JoinedTies
import Derived.KernelRfl
namespace Go.Proofs.Ytbcflhpaafpndaa
/- THE CELL 'sum', in the pinned program and in every row, IS THE sha256 OF THE DUMP (.gsa) THAT YtbcflhpaafpndaaProg.lean LOADS. Nothing in Lean hashes anything: it is a label: what it is worth is what the hold of that sum in a sandbox is worth. -/
noncomputable def Try.pinned : Pinned := { name := "ytbcflhpaafpndaa", sum := "a0845ed8ec8fb2cbc7123633311adacef02ed85daa1834b3d4db8e7af2d0872f", checked := Try.checked }
namespace Rows
def none {H : Type} : Left H := { results := [], args := [] }

/-- 'twinshaftlaw05.AsmKnown': WHATEVER THE INPUT: true; the input reads as it did. -/
def asmKnownSpec : ChangeSpec := { name := "asmKnown", fn := fun _ => fun
  | [] => { results := [.lit (.bool true)], args := [] }
  | _ => none }
def asmKnownRow : OpenClaim := { program := "ytbcflhpaafpndaa", sum := "a0845ed8ec8fb2cbc7123633311adacef02ed85daa1834b3d4db8e7af2d0872f", func := "twinshaft/twinshaftlaw05.AsmKnown", spec := "asmKnown", unfollowed := true, recurses := true, apart := false }
def AsmKnownSaid : Prop := asmKnownRow.holds Try.pinned (OpenSpec.ofChange asmKnownSpec)

/-- ITS FALSE NEIGHBOUR: 'it returns false'. Refute it at one input. -/
def asmKnownWrong : ChangeSpec := { name := "asmKnown", fn := fun _ => fun
  | [] => { results := [.lit (.bool false)], args := [] }
  | _ => none }
def AsmKnownWrongFalsely : Prop := asmKnownRow.holds Try.pinned (OpenSpec.ofChange asmKnownWrong)

/-- 'twinshaftlaw05.AsmGoes': WHATEVER THE INPUT: true; the input reads as it did. -/
def asmGoesSpec : ChangeSpec := { name := "asmGoes", fn := fun _ => fun
  | [d] => { results := [.lit (.bool true)], args := [d] }
  | _ => none }
def asmGoesRow : OpenClaim := { program := "ytbcflhpaafpndaa", sum := "a0845ed8ec8fb2cbc7123633311adacef02ed85daa1834b3d4db8e7af2d0872f", func := "twinshaft/twinshaftlaw05.AsmGoes", spec := "asmGoes", unfollowed := true, recurses := true, apart := false }
def AsmGoesSaid : Prop := asmGoesRow.holds Try.pinned (OpenSpec.ofChange asmGoesSpec)

/-- ITS FALSE NEIGHBOUR: 'it returns false'. Refute it at one input. -/
def asmGoesWrong : ChangeSpec := { name := "asmGoes", fn := fun _ => fun
  | [d] => { results := [.lit (.bool false)], args := [d] }
  | _ => none }
def AsmGoesWrongFalsely : Prop := asmGoesRow.holds Try.pinned (OpenSpec.ofChange asmGoesWrong)

/-- 'twinshaftlaw05.AsmShort': WHATEVER THE INPUT: true; the input reads as it did. -/
def asmShortSpec : ChangeSpec := { name := "asmShort", fn := fun _ => fun
  | [d1, d2] => { results := [.lit (.bool true)], args := [d1, d2] }
  | _ => none }
def asmShortRow : OpenClaim := { program := "ytbcflhpaafpndaa", sum := "a0845ed8ec8fb2cbc7123633311adacef02ed85daa1834b3d4db8e7af2d0872f", func := "twinshaft/twinshaftlaw05.AsmShort", spec := "asmShort", unfollowed := true, recurses := true, apart := false }
def AsmShortSaid : Prop := asmShortRow.holds Try.pinned (OpenSpec.ofChange asmShortSpec)

/-- ITS FALSE NEIGHBOUR: 'it returns false'. Refute it at one input. -/
def asmShortWrong : ChangeSpec := { name := "asmShort", fn := fun _ => fun
  | [d1, d2] => { results := [.lit (.bool false)], args := [d1, d2] }
  | _ => none }
def AsmShortWrongFalsely : Prop := asmShortRow.holds Try.pinned (OpenSpec.ofChange asmShortWrong)

/-- 'twinshaftlaw05.AsmInverse': WHATEVER THE INPUT: true; the input reads as it did. -/
def asmInverseSpec : ChangeSpec := { name := "asmInverse", fn := fun _ => fun
  | [d] => { results := [.lit (.bool true)], args := [d] }
  | _ => none }
def asmInverseRow : OpenClaim := { program := "ytbcflhpaafpndaa", sum := "a0845ed8ec8fb2cbc7123633311adacef02ed85daa1834b3d4db8e7af2d0872f", func := "twinshaft/twinshaftlaw05.AsmInverse", spec := "asmInverse", unfollowed := true, recurses := true, apart := false }
def AsmInverseSaid : Prop := asmInverseRow.holds Try.pinned (OpenSpec.ofChange asmInverseSpec)

/-- ITS FALSE NEIGHBOUR: 'it returns false'. Refute it at one input. -/
def asmInverseWrong : ChangeSpec := { name := "asmInverse", fn := fun _ => fun
  | [d] => { results := [.lit (.bool false)], args := [d] }
  | _ => none }
def AsmInverseWrongFalsely : Prop := asmInverseRow.holds Try.pinned (OpenSpec.ofChange asmInverseWrong)

/- THE SECOND FORM. 'bulk': how many values and letters a reading holds, each counted each time it is reached (what is shared counts as often as it is met; a slice's spare places count too). A statement '..UptoSaid' is the law's where the arguments, and the package variables that the reading takes, are together of bulk at most 1048576: NARROWER than '..Said'. Prove '..Said' where nothing that the law and all that it calls make is longer than what came in: it says more and counts as full. Else prove '..UptoSaid'. A law counts once. -/
mutual
def uptoBulk {H : Type} : DataW H → Nat
  | .lit (.string bytes) => bytes.length + 1
  | .lit _ => 1
  | .nil => 1
  | .ptr d => uptoBulk d + 1
  | .slice elems spare => uptoBulkAll elems + uptoBulkAll spare + 1
  | .agg parts => uptoBulkAll parts + 1
  | .iface _ d => uptoBulk d + 1
  | .map entries => uptoBulkEntries entries + 1
  | .held _ => 1
def uptoBulkAll {H : Type} : List (DataW H) → Nat
  | [] => 0
  | d :: r => uptoBulk d + uptoBulkAll r
def uptoBulkEntries {H : Type} : List (Lit × DataW H) → Nat
  | [] => 0
  | x :: r => uptoBulkEntry x + uptoBulkEntries r
def uptoBulkEntry {H : Type} : Lit × DataW H → Nat
  | (.string bytes, d) => bytes.length + uptoBulk d + 1
  | (_, d) => uptoBulk d + 1
 end
def uptoSmall : (H : Type) → List (DataW H) → Bool := fun _ ds => decide (uptoBulkAll ds ≤ 1048576)
def OpenSpec.upto (s : _root_.Go.ChangeSpec) : _root_.Go.OpenSpec := { _root_.Go.OpenSpec.ofChange s with cond := some uptoSmall }

/-- 'twinshaftlaw05.AsmKnown', WHERE WHAT IT READS IS OF BULK AT MOST 1048576: true; the input reads as it did. -/
def asmKnownUptoRow : OpenClaim := { program := "ytbcflhpaafpndaa", sum := "a0845ed8ec8fb2cbc7123633311adacef02ed85daa1834b3d4db8e7af2d0872f", func := "twinshaft/twinshaftlaw05.AsmKnown", spec := "asmKnown", unfollowed := true, recurses := true, apart := false, narrowed := true }
def AsmKnownUptoSaid : Prop := asmKnownUptoRow.holds Try.pinned (OpenSpec.upto asmKnownSpec)

/-- 'twinshaftlaw05.AsmGoes', WHERE WHAT IT READS IS OF BULK AT MOST 1048576: true; the input reads as it did. -/
def asmGoesUptoRow : OpenClaim := { program := "ytbcflhpaafpndaa", sum := "a0845ed8ec8fb2cbc7123633311adacef02ed85daa1834b3d4db8e7af2d0872f", func := "twinshaft/twinshaftlaw05.AsmGoes", spec := "asmGoes", unfollowed := true, recurses := true, apart := false, narrowed := true }
def AsmGoesUptoSaid : Prop := asmGoesUptoRow.holds Try.pinned (OpenSpec.upto asmGoesSpec)

/-- 'twinshaftlaw05.AsmShort', WHERE WHAT IT READS IS OF BULK AT MOST 1048576: true; the input reads as it did. -/
def asmShortUptoRow : OpenClaim := { program := "ytbcflhpaafpndaa", sum := "a0845ed8ec8fb2cbc7123633311adacef02ed85daa1834b3d4db8e7af2d0872f", func := "twinshaft/twinshaftlaw05.AsmShort", spec := "asmShort", unfollowed := true, recurses := true, apart := false, narrowed := true }
def AsmShortUptoSaid : Prop := asmShortUptoRow.holds Try.pinned (OpenSpec.upto asmShortSpec)

/-- 'twinshaftlaw05.AsmInverse', WHERE WHAT IT READS IS OF BULK AT MOST 1048576: true; the input reads as it did. -/
def asmInverseUptoRow : OpenClaim := { program := "ytbcflhpaafpndaa", sum := "a0845ed8ec8fb2cbc7123633311adacef02ed85daa1834b3d4db8e7af2d0872f", func := "twinshaft/twinshaftlaw05.AsmInverse", spec := "asmInverse", unfollowed := true, recurses := true, apart := false, narrowed := true }
def AsmInverseUptoSaid : Prop := asmInverseUptoRow.holds Try.pinned (OpenSpec.upto asmInverseSpec)

end Rows
end Go.Proofs.Ytbcflhpaafpndaa
