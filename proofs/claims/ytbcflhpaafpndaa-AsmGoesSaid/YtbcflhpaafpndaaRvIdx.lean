/- a row of the table, by value. -/
import Derived.Test.YtbcflhpaafpndaaRvOf
namespace Go.Proofs.Ytbcflhpaafpndaa
open Go.RowKit
set_option linter.unusedVariables false
theorem rows_index {R : Array Value} (T : Tab R) (k : Nat) (hk : k < 64) (w : World) : (Instr.index 65 (.agg R) (.int .i64 k)).run Try.prog w = .ok (.agg (rv.cells (rv.row k))) w := by
  have e : R.extract (k * 5) (k * 5 + 5) = rv.cells (rv.row k) := by
    apply Array.ext_getElem?
    intro j
    rw [Array.getElem?_extract]
    have hs : min (k * 5 + 5) R.size - k * 5 = 5 := by rw [T.size]; omega
    rw [hs]
    by_cases hj : j < 5
    · rw [if_pos hj]
      exact T.at' k j hk hj
    · rw [if_neg hj]
      rw [Array.getElem?_eq_none]
      rw [rv.cells_size]
      omega
  simp [Instr.index, run_underlying Try.underlying65, asIntOf, part, hk, go_sem]
  rw [e]
theorem shape_b (x : Value) (b : Bool) (c d e f : Value) (w : World) : (Instr.field 69 (.agg #[x, .bool b, c, d, e, f]) 1).run Try.prog w = .ok (.bool b) w := by kernel_rfl
end Go.Proofs.Ytbcflhpaafpndaa
