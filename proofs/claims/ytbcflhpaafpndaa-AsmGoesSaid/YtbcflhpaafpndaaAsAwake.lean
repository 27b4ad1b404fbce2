/- awake: some of the chapter's examples. -/
import Derived.Test.YtbcflhpaafpndaaAsThree
namespace Go.Proofs.Ytbcflhpaafpndaa
open Go.RowKit
set_option linter.unusedVariables false
theorem line_info : (Try.prog.info? 35).map (·.size) = some 7 := by kernel_rfl
theorem label_any (n : Int) (w : World) : Calls Try.prog 11 #[.int .i64 n] w fun e w' => e = .returned (.agg (al.labelL n).cells) ∧ Below w.heap.size w w' := by
  go_enter Try.func11, Try.ntmps11
  go_wp2
  refine bodyPost_ret (results_cell_row rfl _ _ w.heap.size 35 _ (0, 0) _ rfl (heap_alloc_new _ _) Try.underlying35 rfl line_info) rfl ?_
  exact ⟨rfl, kt.below_row _⟩
theorem nothing_any (w : World) : Calls Try.prog 14 #[] w fun e w' => e = .returned (.agg al.nothingL.cells) ∧ Below w.heap.size w w' := by
  go_enter Try.func14, Try.ntmps14
  go_wp2
  refine bodyPost_ret (results_cell_row rfl _ _ w.heap.size 35 _ (0, 0) _ rfl (heap_alloc_new _ _) Try.underlying35 rfl line_info) rfl ?_
  exact ⟨rfl, kt.below_row _⟩
theorem branch_any (w : World) : Calls Try.prog 12 #[] w fun e w' => e = .returned (.agg al.branchL.cells) ∧ Below w.heap.size w w' := by
  go_enter Try.func12, Try.ntmps12
  go_wp2
  refine bodyPost_ret (results_cell_row rfl _ _ w.heap.size 35 _ (0, 0) _ rfl (heap_alloc_new _ _) Try.underlying35 rfl line_info) rfl ?_
  exact ⟨rfl, kt.below_row _⟩
def al.cells3 : Array Value := #[.int .i64 1, .int .i64 1, .int .i64 0, .int .i64 0, .int .i64 0, .int .i64 0, .int .i64 0, .int .i64 0, .int .i64 0, .int .i64 22, .int .i64 0, .int .i64 0, .int .i64 0, .int .i64 0, .int .i64 2, .int .i64 1, .int .i64 5, .int .i64 0, .int .i64 1, .int .i64 2, .int .i64 0]
theorem lines3 (w : World) : kt.Lines (w.alloc (.cells al.cells3 35)) (some ⟨w.heap.size, 0, none⟩) 3 al.ls3 := by
  have hb := heap_alloc_new w (.cells al.cells3 35)
  refine ⟨?_, by decide, .inr ⟨w.heap.size, 0, rfl, ?_⟩⟩
  · intro i hi
    have : i = 0 ∨ i = 1 ∨ i = 2 := by omega
    rcases this with rfl | rfl | rfl <;> (constructor <;> (unfold kt.i64ok; decide))
  · intro i hi
    have : i = 0 ∨ i = 1 ∨ i = 2 := by omega
    rcases this with rfl | rfl | rfl <;> (constructor <;> exact (cell_of_row _ _ _ _ _ _ hb).trans rfl)
end Go.Proofs.Ytbcflhpaafpndaa
