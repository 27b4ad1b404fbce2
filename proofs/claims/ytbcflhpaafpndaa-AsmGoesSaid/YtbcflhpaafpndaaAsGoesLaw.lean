/- AsmGoes, walked, over what came in: a run by value. -/
import Derived.Test.YtbcflhpaafpndaaAsGoesW
namespace Go.Proofs.Ytbcflhpaafpndaa
open Go.RowKit Go.Deep Go.Joins Go.ChangeShapes Go.WideShapes
set_option linter.unusedVariables false
/-- a run -/
structure kt.Rn where
  a : Option Addr
  n : Nat
  c : Nat
  ls : Nat → kt.Ln
  which : Int
  times : Int
structure kt.RnOk (w : World) (x : kt.Rn) : Prop where
  lines : kt.LinesC w x.a x.n x.c x.ls
  which : kt.i64ok x.which
  times : kt.i64ok x.times
theorem cells_ls : Try.prog.cellsOf 26 = 1 := by kernel_rfl
theorem cells_run : Try.prog.cellsOf 41 = 3 := by kernel_rfl
section
variable {H : Type} {enc : TypeId × Value → H} {w : World} {base : Nat} {spare : Nat → Bool} {held : Bool}
theorem slice_come {fuel : Nat} {v : Value} {y : DataW H × List MemPlace} (hsp : ∀ b, spare b = true) (h : DataW.trod enc Try.prog w base spare held fuel 26 [v] = some y) : ∃ a n c ls, v = .slice a n c ∧ kt.LinesC w a n c ls := by
  rcases open_slice Try.underlying26 h with ⟨hcs, _⟩ | ⟨ad, l, c, m, n, D, Pl, hcs, _⟩
  · simp at hcs
    subst hcs
    obtain ⟨xs, hx⟩ := lines_come hsp h
    exact ⟨_, _, _, xs, rfl, hx⟩
  · simp at hcs
    subst hcs
    obtain ⟨xs, hx⟩ := lines_come hsp h
    exact ⟨_, _, _, xs, rfl, hx⟩
theorem run_come {fuel : Nat} {cs : List Value} {y : DataW H × List MemPlace} (hsp : ∀ b, spare b = true) (h : DataW.trod enc Try.prog w base spare held fuel 41 cs = some y) :
    ∃ x : kt.Rn, cs = [.slice x.a x.n x.c, .int .i64 x.which, .int .i64 x.times] ∧ kt.RnOk w x := by
  obtain ⟨ys, n, _, _, hlen, hyl, hf⟩ := DataW.trod_struct Try.underlying41 h
  rw [cells_run] at hlen
  match cs, hlen with
  | [v0, v1, v2], _ =>
    have g0 : DataW.trod enc Try.prog w base spare held n 26 (([v0, v1, v2].drop 0).take (Try.prog.cellsOf 26)) = ys[0]? := hf 0 _ rfl
    have g1 : DataW.trod enc Try.prog w base spare held n 3 (([v0, v1, v2].drop 1).take (Try.prog.cellsOf 3)) = ys[1]? := hf 1 _ rfl
    have g2 : DataW.trod enc Try.prog w base spare held n 3 (([v0, v1, v2].drop 2).take (Try.prog.cellsOf 3)) = ys[2]? := hf 2 _ rfl
    rw [cells_ls] at g0
    rw [cells_int] at g1 g2
    obtain ⟨y0, t0⟩ := some_of g0 (by rw [hyl]; decide)
    obtain ⟨y1, t1⟩ := some_of g1 (by rw [hyl]; decide)
    obtain ⟨y2, t2⟩ := some_of g2 (by rw [hyl]; decide)
    obtain ⟨a, n0, c, ls, e0, h0⟩ := slice_come hsp t0
    obtain ⟨wh, e1, h1⟩ := i64_come t1
    obtain ⟨tm, e2, h2⟩ := i64_come t2
    refine ⟨⟨a, n0, c, ls, wh, tm⟩, ?_, ⟨h0, h1, h2⟩⟩
    subst e0 e1 e2
    rfl
end
theorem run_agg_come {H : Type} {enc : TypeId × Value → H} {w : World} {r : Reach} {b0 base : Nat} {held : Bool} {v : Value} {d : DataW H} {p : List MemPlace} (hv : Value.okWide Try.prog w r b0 41 v)
    (h : DataW.Trod enc Try.prog w base (fun _ => true) held 41 v d p) :
    ∃ x : kt.Rn, v = .agg #[.slice x.a x.n x.c, .int .i64 x.which, .int .i64 x.times] ∧ kt.RnOk w x := by
  obtain ⟨cs, rfl, hsz⟩ := okWide_struct Try.underlying41 hv
  obtain ⟨fuel, hf⟩ := h
  obtain ⟨x, hc, hx⟩ := run_come (fun _ => rfl) hf
  refine ⟨x, ?_, hx⟩
  congr 1
  apply Array.toList_inj.1
  simpa [Value.cells] using hc
theorem goes_walk (x : kt.Rn) (w : World) (h : kt.RnOk w x) :
    Calls Try.prog 4 #[.agg #[.slice x.a x.n x.c, .int .i64 x.which, .int .i64 x.times]] w fun e w' => e = .returned (.bool true) ∧ Below w.heap.size w w' :=
  goes_law x.a x.n x.c x.ls x.which x.times w h.lines.1 h.lines.2.1 h.lines.2.2 h.which h.times
end Go.Proofs.Ytbcflhpaafpndaa
