/- rows, walked. -/
import Derived.Test.YtbcflhpaafpndaaRvTab
import Derived.Test.YtbcflhpaafpndaaRows
import Derived.Test.YtbcflhpaafpndaaKit
import Derived.Handy
import Derived.Laws.ResultCell
import Derived.Laws.Tables
import Derived.Test.YtbcflhpaafpndaaRvLaw
namespace Go.Proofs.Ytbcflhpaafpndaa
open Go.RowKit
set_option linter.unusedVariables false

theorem zeroArr_run (w : World) : (zeroValue 65).run Try.prog w = .ok (.agg zeroArr) w := by kernel_rfl
theorem rowsArr_info : (Try.prog.info? 65).map (·.size) = some 320 := by kernel_rfl
set_option maxRecDepth 100000 in
set_option maxHeartbeats 1600000 in
theorem rows_any (w : World) : Calls Try.prog 26 #[] w fun e w' => e = .returned (.agg rowsArr) ∧ Below w.heap.size w w' := by
  obtain ⟨z, hz, hzs⟩ : ∃ z : Array Value, (∀ w, (zeroValue 65).run Try.prog w = .ok (.agg z) w) ∧ Hid (z.size = rowsArr.size) := ⟨zeroArr, zeroArr_run, bl.hid (by rw [zeroArr_size, rowsArr_size])⟩
  have hi : Hid ((Try.prog.info? 65).map (·.size) = some rowsArr.size) := bl.hid (by rw [rowsArr_size]; exact rowsArr_info)
  go_enter Try.func26, Try.ntmps26
  refine wp_seq_k (fun K hK => ?_)
  refine wp_region_lit ?_
  refine kt.wpList_alloc_row rfl _ rfl z hz ?_
  refine wpList_nil ?_
  refine hK _ _ ?_
  clear hK K
  refine wp_seq_k (fun K hK => ?_)
  refine wp_region_lit ?_
  simp only [List.append_eq, List.cons_append, List.nil_append]
  iterate 65 (refine wpList_build rfl _ _ rfl (by kernel_rfl) ?_)
  refine kt.wpList_store_row_new rfl 65 _ _ rfl rfl z rowsArr (by kernel_rfl) (by kernel_rfl) hi.out hzs.out rowsArr_one ?_
  refine wpList_nil ?_
  refine hK _ _ ?_
  clear hK K
  refine wp_ret ?_
  refine bodyPost_ret (results_cell_row rfl _ _ w.heap.size 65 rowsArr (0, 0) _ (by kernel_rfl) (heap_alloc_last _ _) Try.underlying65 rfl hi.out) (by kernel_rfl) ?_
  exact ⟨rfl, kt.below_row _⟩
end Go.Proofs.Ytbcflhpaafpndaa
