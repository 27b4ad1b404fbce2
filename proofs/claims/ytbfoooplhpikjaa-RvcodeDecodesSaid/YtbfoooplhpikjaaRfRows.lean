/- The reference's table. -/
import Derived.Test.YtbfoooplhpikjaaRvOf
import Derived.Great.Walk
import Derived.BigFrame
namespace Go.Proofs.Ytbfoooplhpikjaa
open Go.RowKit
set_option linter.unusedVariables false
def refArr : Array Value := rowsArr.extract 5 320
set_option maxRecDepth 100000 in
theorem refArr_size : refArr.size = 315 := by kernel_rfl
/-- cell j of row k, counted from 0 -/
theorem refArr_at (k j : Nat) (hk : k < 63) (hj : j < 5) : refArr[k * 5 + j]? = (rv.cells (rv.row (k + 1)))[j]? := by
  rw [← rowsArr_at (k + 1) j (by omega) hj]
  unfold refArr
  rw [Array.getElem?_extract, rowsArr_size, if_pos (by omega)]
  congr 1
  omega
theorem kt.wpList_assign {P : Program} {ops : Array Oper} {rest : List Oper} {o : Oper} {a : Act} {w : World} {Q : Exit → Act → World → Prop} (hg : o.guard = none) (x : Operand) (ho : o.op = .assign x)
    (h : wpList P ops Q rest (a.put o.dst (a.eval x)) w) : wpList P ops Q (o :: rest) a w :=
  wpList_plain hg fun _ hK => Go.BigFrame.wp_assign x ho (hK _ _ h)
set_option maxRecDepth 100000 in
set_option maxHeartbeats 1600000 in
theorem refrows_any (w : World) : Calls Try.prog 27 #[] w fun e w' => e = .returned (.slice (some ⟨w.heap.size, 0, none⟩) 63 63) ∧ w' = w.alloc (.cells refArr 53) := by
  go_enter Try.func27, Try.ntmps27
  refine wp_seq_k (fun K hK => ?_)
  refine wp_region_lit ?_
  refine kt.wpList_assign rfl _ rfl ?_
  refine wpList_nil ?_
  refine hK _ _ ?_
  clear hK K
  refine wp_seq_k (fun K hK => ?_)
  refine wp_region_lit ?_
  simp only [List.append_eq, List.cons_append, List.nil_append]
  iterate 63 (refine wpList_build rfl _ _ rfl (by kernel_rfl) ?_)
  refine Great.wpList_buildSliceTo rfl 50 53 63 _ rfl w.heap.size rfl _ rfl Try.underlying50 refArr (by kernel_rfl) ?_
  refine kt.wpList_assign rfl _ rfl ?_
  refine wpList_nil ?_
  refine hK _ _ ?_
  clear hK K
  refine wp_ret ?_
  refine bodyPost_ret (v := .slice (some ⟨w.heap.size, 0, none⟩) 63 63) (by simp [results, Try.results27, go_sem]) (by kernel_rfl) ?_
  exact ⟨rfl, rfl⟩
theorem rrow_info : (Try.prog.info? 53).map (·.size) = some 5 := by kernel_rfl
/-- the table lies in block B -/
structure RefAt (w : World) (B : Nat) : Prop where
  h : w.heap[B]? = some (.cells refArr 53 (0, 0))
theorem RefAt.cells {w : World} {B : Nat} (h : RefAt w B) (k : Nat) (hk : k < 63) : w.cell? ⟨B, k * 5, none⟩ = some (.string (rv.row (k + 1)).name) ∧ w.cell? ⟨B, k * 5 + 1, none⟩ = some (.string (rv.row (k + 1)).form) ∧
    w.cell? ⟨B, k * 5 + 2, none⟩ = some (.int .u32 (rv.row (k + 1)).a) ∧ w.cell? ⟨B, k * 5 + 3, none⟩ = some (.int .u32 (rv.row (k + 1)).b) ∧ w.cell? ⟨B, k * 5 + 4, none⟩ = some (.int .u32 (rv.row (k + 1)).c) :=
  ⟨(cell_of_row _ _ _ _ _ _ h.h).trans (refArr_at k 0 hk (by omega)), (cell_of_row _ _ _ _ _ _ h.h).trans (refArr_at k 1 hk (by omega)), (cell_of_row _ _ _ _ _ _ h.h).trans (refArr_at k 2 hk (by omega)), (cell_of_row _ _ _ _ _ _ h.h).trans (refArr_at k 3 hk (by omega)), (cell_of_row _ _ _ _ _ _ h.h).trans (refArr_at k 4 hk (by omega))⟩
def RowsPost (w : World) (e : Ending) (w' : World) : Prop := ∃ B : Nat, e = .returned (.slice (some ⟨B, 0, none⟩) 63 63) ∧ w.heap.size ≤ B ∧ B < w'.heap.size ∧ RefAt w' B ∧ Below w.heap.size w w'
theorem refrows (w : World) : Calls Try.prog 27 #[] w (RowsPost w) := by
  refine (refrows_any w).mono ?_
  rintro e w' ⟨rfl, rfl⟩
  exact ⟨w.heap.size, rfl, Nat.le_refl _, by rw [World.size_alloc]; omega, ⟨heap_alloc_new _ _⟩, kt.below_row _⟩
end Go.Proofs.Ytbfoooplhpikjaa
