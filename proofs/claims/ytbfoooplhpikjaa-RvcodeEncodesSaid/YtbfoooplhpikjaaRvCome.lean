/- An instruction that came in by value, opened from its reading; the walks in the rows' form. -/
import Derived.Test.YtbfoooplhpikjaaRvLaws3
import Derived.Deep.Slices
import Derived.Deep.Fields
import Derived.ChangeSame
import Derived.Lib.SmallJoins
namespace Go.Proofs.Ytbfoooplhpikjaa
open Go.RowKit Go.Deep Go.Joins Go.ChangeShapes Go.WideShapes
set_option linter.unusedVariables false
section
variable {H : Type} {enc : TypeId × Value → H} {P : Program} {w : World} {base : Nat} {spare : Nat → Bool} {held : Bool}
/-- a struct's fields of one cell each, from its cells -/
theorem struct_fields {e : TypeId} {fs : Array Field} {fuel : Nat} {cs : List Value} {x : DataW H × List MemPlace} (he : P.underlying e = some (.struct fs)) (hone : oneCellFields P fs = true) (hC : P.cellsOf e = fs.size)
    (h : DataW.trod enc P w base spare held fuel e cs = some x) :
    cs.length = fs.size ∧ ∃ n, ∀ (j : Nat) (f : Field), fs[j]? = some f → ∃ (v : Value) (y : DataW H × List MemPlace), cs[j]? = some v ∧ DataW.trod enc P w base spare held n f.type [v] = some y := by
  obtain ⟨ys, n, _, _, hlen, hyl, hf⟩ := DataW.trod_struct he h
  refine ⟨hlen.trans hC, n, fun j f hj => ?_⟩
  obtain ⟨ho, hk⟩ := hone_of hone j f hj
  have hjl : j < fs.size := (Array.getElem?_eq_some_iff.1 hj).1
  have hjc : j < cs.length := by omega
  have h1 := hf j f hj
  rw [ho, hk, List.drop_eq_getElem_cons hjc] at h1
  exact ⟨cs[j], ys[j]'(by omega), List.getElem?_eq_getElem hjc, by rw [show [cs[j]] = (cs[j] :: cs.drop (j + 1)).take 1 from rfl, h1]; exact List.getElem?_eq_getElem (by omega)⟩
end
/-- an instruction -/
structure kt.Ins where
  op : Int
  rd : Int
  rs1 : Int
  rs2 : Int
  im : Int
def kt.i64ok (n : Int) : Prop := -9223372036854775808 ≤ n ∧ n ≤ 9223372036854775807
structure kt.InsOk (w : World) (x : kt.Ins) : Prop where
  op : kt.i64ok x.op
  rd : kt.i64ok x.rd
  rs1 : kt.i64ok x.rs1
  rs2 : kt.i64ok x.rs2
  im : kt.i64ok x.im
section
variable {H : Type} {enc : TypeId × Value → H} {w : World} {base : Nat} {spare : Nat → Bool} {held : Bool}
theorem i64_come {fuel : Nat} {v : Value} {y : DataW H × List MemPlace} (h : DataW.trod enc Try.prog w base spare held fuel 3 [v] = some y) : ∃ n : Int, v = .int .i64 n ∧ -9223372036854775808 ≤ n ∧ n ≤ 9223372036854775807 := by
  obtain ⟨n, e, -, hw⟩ := DataW.trod_int Try.underlying3 h
  have := bl.wf_i64 hw
  exact ⟨n, by simpa using e, this⟩
/-- an instruction, from its cells -/
theorem ins_come {fuel : Nat} {cs : List Value} {y : DataW H × List MemPlace} (h : DataW.trod enc Try.prog w base spare held fuel 24 cs = some y) :
    ∃ x : kt.Ins, cs = [.int .i64 x.op, .int .i64 x.rd, .int .i64 x.rs1, .int .i64 x.rs2, .int .i64 x.im] ∧ kt.InsOk w x := by
  obtain ⟨hlen, n, hf⟩ := struct_fields Try.underlying24 (by kernel_rfl) (by kernel_rfl) h
  obtain ⟨v0, y0, c0, t0⟩ := hf 0 _ rfl
  obtain ⟨v1, y1, c1, t1⟩ := hf 1 _ rfl
  obtain ⟨v2, y2, c2, t2⟩ := hf 2 _ rfl
  obtain ⟨v3, y3, c3, t3⟩ := hf 3 _ rfl
  obtain ⟨v4, y4, c4, t4⟩ := hf 4 _ rfl
  obtain ⟨x0, rfl, b0⟩ := i64_come t0
  obtain ⟨x1, rfl, b1⟩ := i64_come t1
  obtain ⟨x2, rfl, b2⟩ := i64_come t2
  obtain ⟨x3, rfl, b3⟩ := i64_come t3
  obtain ⟨x4, rfl, b4⟩ := i64_come t4
  refine ⟨⟨x0, x1, x2, x3, x4⟩, ?_, ⟨b0, b1, b2, b3, b4⟩⟩
  match cs, hlen with
  | [e0, e1, e2, e3, e4], _ =>
    simp at c0 c1 c2 c3 c4
    subst c0 c1 c2 c3 c4
    rfl
end
theorem ins_agg_come {H : Type} {enc : TypeId × Value → H} {w : World} {r : Reach} {b0 base : Nat} {spare : Nat → Bool} {held : Bool} {v : Value} {d : DataW H} {p : List MemPlace} (hv : Value.okWide Try.prog w r b0 24 v)
    (h : DataW.Trod enc Try.prog w base spare held 24 v d p) :
    ∃ x : kt.Ins, v = .agg #[.int .i64 x.op, .int .i64 x.rd, .int .i64 x.rs1, .int .i64 x.rs2, .int .i64 x.im] ∧ kt.InsOk w x := by
  obtain ⟨cs, rfl, hsz⟩ := okWide_struct Try.underlying24 hv
  obtain ⟨fuel, hf⟩ := h
  obtain ⟨x, hc, hx⟩ := ins_come hf
  refine ⟨x, ?_, hx⟩
  congr 1
  apply Array.toList_inj.1
  simpa [Value.cells] using hc
theorem known_walk (w : World) : Calls Try.prog 7 #[] w fun e w' => e = .returned (.bool true) ∧ Below w.heap.size w w' := known_any w
theorem back_walk (x : kt.Ins) (w : World) (h : kt.InsOk w x) :
    Calls Try.prog 8 #[.agg #[.int .i64 x.op, .int .i64 x.rd, .int .i64 x.rs1, .int .i64 x.rs2, .int .i64 x.im]] w fun e w' => e = .returned (.bool true) ∧ Below w.heap.size w w' := back_any _ _ _ _ _ w
theorem fields_walk (x y : kt.Ins) (w : World) (h : kt.InsOk w x) (g : kt.InsOk w y) :
    Calls Try.prog 4 #[.agg #[.int .i64 x.op, .int .i64 x.rd, .int .i64 x.rs1, .int .i64 x.rs2, .int .i64 x.im], .agg #[.int .i64 y.op, .int .i64 y.rd, .int .i64 y.rs1, .int .i64 y.rs2, .int .i64 y.im]] w fun e w' => e = .returned (.bool true) ∧ Below w.heap.size w w' := fields_any _ _ _ _ _ _ _ _ _ _ w
theorem wf_u32 {a : Int} (h : (Lit.int .u32 a).wf = true) : 0 ≤ a ∧ a < 4294967296 := by
  have hmin : IntKind.u32.min = 0 := rfl
  have hmax : IntKind.u32.max = 4294967295 := rfl
  simp only [Lit.wf, Bool.and_eq_true, decide_eq_true_eq] at h
  omega
theorem again_walk (v : Int) (w : World) (h : (Lit.int .u32 v).wf = true) :
    Calls Try.prog 5 #[.int .u32 v] w fun e w' => e = .returned (.bool true) ∧ Below w.heap.size w w' := again_any v (wf_u32 h).1 (wf_u32 h).2 w
theorem names_walk (m n : Int) (w : World) (h : (Lit.int .i64 m).wf = true) (g : (Lit.int .i64 n).wf = true) :
    Calls Try.prog 9 #[.int .i64 m, .int .i64 n] w fun e w' => e = .returned (.bool true) ∧ Below w.heap.size w w' := names_any m n (bl.wf_i64 h).1 (bl.wf_i64 h).2 (bl.wf_i64 g).1 (bl.wf_i64 g).2 w
end Go.Proofs.Ytbfoooplhpikjaa
