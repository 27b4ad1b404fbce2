/-
  No cell of these rows narrows 'for every input' (looked for: loops, veiled, ifaces, maps, wideKeys, modest, calm, conditions, laid).
  DERIVED. THE GIVEN ROWS OF THIS SEAT. 5 by the template 'for every input the law returns true; each argument reads behind the call as it read before'; 0 by the template 'total and deterministic' (their statements: YtkohmoekomegnaaTotals.lean).
  GIVEN WITH THE SEED: the statements are not yours to turn. If you find one false, say at which input.
  Laid BY PROGRAM, IN A SANDBOX (cutbox-rows.mjs): the forced cells as the released guide's own fill.sh prints them over the translation 541241ef656a4765… (all of the seat's roots in one cut). By AI agents, Wed Nov 11 2026. No macro, syntax, notation, axiom, sorry.
-/
import Derived.Test.YtkohmoekomegnaaChecked
import GoSem.Claim
import GoSem.ClaimJoined
import GoSem.ClaimMapViews
import Derived.JoinedTies
import Derived.KernelRfl
namespace Go.Proofs.Ytkohmoekomegnaa
/- THE CELL 'sum', in the pinned program and in every row, IS THE sha256 OF THE DUMP (.gsa) THAT YtkohmoekomegnaaProg.lean LOADS. Nothing in Lean hashes anything: it is a label: what it is worth is what the hold of that sum in a sandbox is worth. -/
noncomputable def Try.pinned : Pinned := { name := "ytkohmoekomegnaa", sum := "541241ef656a47652bdeaee6057bb176147639c899835d5e2d31f519f275cc2a", checked := Try.checked }
namespace Rows
def none {H : Type} : Left H := { results := [], args := [] }

/-- 'twinshaftlaw02.MemApart': WHATEVER THE INPUT: true; the input reads as it did. -/
def memApartSpec : ChangeSpec := { name := "memApart", fn := fun _ => fun
  | [d1, d2, d3, d4] => { results := [.lit (.bool true)], args := [d1, d2, d3, d4] }
  | _ => none }
def memApartRow : OpenClaim := { program := "ytkohmoekomegnaa", sum := "541241ef656a47652bdeaee6057bb176147639c899835d5e2d31f519f275cc2a", func := "twinshaft/twinshaftlaw02.MemApart", spec := "memApart", unfollowed := true, recurses := true, apart := false }
def MemApartSaid : Prop := memApartRow.holds Try.pinned (OpenSpec.ofChange memApartSpec)

/-- ITS FALSE NEIGHBOUR: 'it returns false'. Refute it at one input. -/
def memApartWrong : ChangeSpec := { name := "memApart", fn := fun _ => fun
  | [d1, d2, d3, d4] => { results := [.lit (.bool false)], args := [d1, d2, d3, d4] }
  | _ => none }
def MemApartWrongFalsely : Prop := memApartRow.holds Try.pinned (OpenSpec.ofChange memApartWrong)

/-- 'twinshaftlaw02.MemKnown': WHATEVER THE INPUT: true; the input reads as it did. -/
def memKnownSpec : ChangeSpec := { name := "memKnown", fn := fun _ => fun
  | [] => { results := [.lit (.bool true)], args := [] }
  | _ => none }
def memKnownRow : OpenClaim := { program := "ytkohmoekomegnaa", sum := "541241ef656a47652bdeaee6057bb176147639c899835d5e2d31f519f275cc2a", func := "twinshaft/twinshaftlaw02.MemKnown", spec := "memKnown", unfollowed := true, recurses := true, apart := false }
def MemKnownSaid : Prop := memKnownRow.holds Try.pinned (OpenSpec.ofChange memKnownSpec)

/-- ITS FALSE NEIGHBOUR: 'it returns false'. Refute it at one input. -/
def memKnownWrong : ChangeSpec := { name := "memKnown", fn := fun _ => fun
  | [] => { results := [.lit (.bool false)], args := [] }
  | _ => none }
def MemKnownWrongFalsely : Prop := memKnownRow.holds Try.pinned (OpenSpec.ofChange memKnownWrong)

/-- 'twinshaftlaw02.MemKeeps': WHATEVER THE INPUT: true; the input reads as it did. -/
def memKeepsSpec : ChangeSpec := { name := "memKeeps", fn := fun _ => fun
  | [d1, d2, d3, d4, d5] => { results := [.lit (.bool true)], args := [d1, d2, d3, d4, d5] }
  | _ => none }
def memKeepsRow : OpenClaim := { program := "ytkohmoekomegnaa", sum := "541241ef656a47652bdeaee6057bb176147639c899835d5e2d31f519f275cc2a", func := "twinshaft/twinshaftlaw02.MemKeeps", spec := "memKeeps", unfollowed := true, recurses := true, apart := false }
def MemKeepsSaid : Prop := memKeepsRow.holds Try.pinned (OpenSpec.ofChange memKeepsSpec)

/-- ITS FALSE NEIGHBOUR: 'it returns false'. Refute it at one input. -/
def memKeepsWrong : ChangeSpec := { name := "memKeeps", fn := fun _ => fun
  | [d1, d2, d3, d4, d5] => { results := [.lit (.bool false)], args := [d1, d2, d3, d4, d5] }
  | _ => none }
def MemKeepsWrongFalsely : Prop := memKeepsRow.holds Try.pinned (OpenSpec.ofChange memKeepsWrong)

/-- 'twinshaftlaw02.MemScript': WHATEVER THE INPUT: true; the input reads as it did. -/
def memScriptSpec : ChangeSpec := { name := "memScript", fn := fun _ => fun
  | [d1, d2] => { results := [.lit (.bool true)], args := [d1, d2] }
  | _ => none }
def memScriptRow : OpenClaim := { program := "ytkohmoekomegnaa", sum := "541241ef656a47652bdeaee6057bb176147639c899835d5e2d31f519f275cc2a", func := "twinshaft/twinshaftlaw02.MemScript", spec := "memScript", unfollowed := true, recurses := true, apart := false }
def MemScriptSaid : Prop := memScriptRow.holds Try.pinned (OpenSpec.ofChange memScriptSpec)

/-- ITS FALSE NEIGHBOUR: 'it returns false'. Refute it at one input. -/
def memScriptWrong : ChangeSpec := { name := "memScript", fn := fun _ => fun
  | [d1, d2] => { results := [.lit (.bool false)], args := [d1, d2] }
  | _ => none }
def MemScriptWrongFalsely : Prop := memScriptRow.holds Try.pinned (OpenSpec.ofChange memScriptWrong)

/-- 'twinshaftlaw02.MemNone': WHATEVER THE INPUT: true; the input reads as it did. -/
def memNoneSpec : ChangeSpec := { name := "memNone", fn := fun _ => fun
  | [d] => { results := [.lit (.bool true)], args := [d] }
  | _ => none }
def memNoneRow : OpenClaim := { program := "ytkohmoekomegnaa", sum := "541241ef656a47652bdeaee6057bb176147639c899835d5e2d31f519f275cc2a", func := "twinshaft/twinshaftlaw02.MemNone", spec := "memNone", unfollowed := true, recurses := true, apart := false }
def MemNoneSaid : Prop := memNoneRow.holds Try.pinned (OpenSpec.ofChange memNoneSpec)

/-- ITS FALSE NEIGHBOUR: 'it returns false'. Refute it at one input. -/
def memNoneWrong : ChangeSpec := { name := "memNone", fn := fun _ => fun
  | [d] => { results := [.lit (.bool false)], args := [d] }
  | _ => none }
def MemNoneWrongFalsely : Prop := memNoneRow.holds Try.pinned (OpenSpec.ofChange memNoneWrong)

/- THE SECOND FORM. 'bulk': how many values and letters a reading holds, each counted each time it is reached (what is shared counts as often as it is met; a slice's spare places count too). A statement '..UptoSaid' is the law's where the arguments, and the package variables that the reading takes, are together of bulk at most 1048576: NARROWER than '..Said'. Prove '..Said' where nothing that the law and all that it calls make is longer than what came in: it says more and counts as full. Else prove '..UptoSaid'. A law counts once. -/
mutual
def uptoBulk {H : Type} : DataW H → Nat
  | .lit (.string bytes) => bytes.length + 1
  | .lit _ => 1
  | .nil => 1
  | .ptr d => uptoBulk d + 1
  | .slice elems spare => uptoBulkAll elems + uptoBulkAll spare + 1
  | .agg parts => uptoBulkAll parts + 1
  | .iface _ d => uptoBulk d + 1
  | .map entries => uptoBulkEntries entries + 1
  | .held _ => 1
def uptoBulkAll {H : Type} : List (DataW H) → Nat
  | [] => 0
  | d :: r => uptoBulk d + uptoBulkAll r
def uptoBulkEntries {H : Type} : List (Lit × DataW H) → Nat
  | [] => 0
  | x :: r => uptoBulkEntry x + uptoBulkEntries r
def uptoBulkEntry {H : Type} : Lit × DataW H → Nat
  | (.string bytes, d) => bytes.length + uptoBulk d + 1
  | (_, d) => uptoBulk d + 1
 end
def uptoSmall : (H : Type) → List (DataW H) → Bool := fun _ ds => decide (uptoBulkAll ds ≤ 1048576)
def OpenSpec.upto (s : _root_.Go.ChangeSpec) : _root_.Go.OpenSpec := { _root_.Go.OpenSpec.ofChange s with cond := some uptoSmall }

/-- 'twinshaftlaw02.MemApart', WHERE WHAT IT READS IS OF BULK AT MOST 1048576: true; the input reads as it did. -/
def memApartUptoRow : OpenClaim := { program := "ytkohmoekomegnaa", sum := "541241ef656a47652bdeaee6057bb176147639c899835d5e2d31f519f275cc2a", func := "twinshaft/twinshaftlaw02.MemApart", spec := "memApart", unfollowed := true, recurses := true, apart := false, narrowed := true }
def MemApartUptoSaid : Prop := memApartUptoRow.holds Try.pinned (OpenSpec.upto memApartSpec)

/-- 'twinshaftlaw02.MemKnown', WHERE WHAT IT READS IS OF BULK AT MOST 1048576: true; the input reads as it did. -/
def memKnownUptoRow : OpenClaim := { program := "ytkohmoekomegnaa", sum := "541241ef656a47652bdeaee6057bb176147639c899835d5e2d31f519f275cc2a", func := "twinshaft/twinshaftlaw02.MemKnown", spec := "memKnown", unfollowed := true, recurses := true, apart := false, narrowed := true }
def MemKnownUptoSaid : Prop := memKnownUptoRow.holds Try.pinned (OpenSpec.upto memKnownSpec)

/-- 'twinshaftlaw02.MemKeeps', WHERE WHAT IT READS IS OF BULK AT MOST 1048576: true; the input reads as it did. -/
def memKeepsUptoRow : OpenClaim := { program := "ytkohmoekomegnaa", sum := "541241ef656a47652bdeaee6057bb176147639c899835d5e2d31f519f275cc2a", func := "twinshaft/twinshaftlaw02.MemKeeps", spec := "memKeeps", unfollowed := true, recurses := true, apart := false, narrowed := true }
def MemKeepsUptoSaid : Prop := memKeepsUptoRow.holds Try.pinned (OpenSpec.upto memKeepsSpec)

/-- 'twinshaftlaw02.MemScript', WHERE WHAT IT READS IS OF BULK AT MOST 1048576: true; the input reads as it did. -/
def memScriptUptoRow : OpenClaim := { program := "ytkohmoekomegnaa", sum := "541241ef656a47652bdeaee6057bb176147639c899835d5e2d31f519f275cc2a", func := "twinshaft/twinshaftlaw02.MemScript", spec := "memScript", unfollowed := true, recurses := true, apart := false, narrowed := true }
def MemScriptUptoSaid : Prop := memScriptUptoRow.holds Try.pinned (OpenSpec.upto memScriptSpec)

/-- 'twinshaftlaw02.MemNone', WHERE WHAT IT READS IS OF BULK AT MOST 1048576: true; the input reads as it did. -/
def memNoneUptoRow : OpenClaim := { program := "ytkohmoekomegnaa", sum := "541241ef656a47652bdeaee6057bb176147639c899835d5e2d31f519f275cc2a", func := "twinshaft/twinshaftlaw02.MemNone", spec := "memNone", unfollowed := true, recurses := true, apart := false, narrowed := true }
def MemNoneUptoSaid : Prop := memNoneUptoRow.holds Try.pinned (OpenSpec.upto memNoneSpec)

end Rows
end Go.Proofs.Ytkohmoekomegnaa
