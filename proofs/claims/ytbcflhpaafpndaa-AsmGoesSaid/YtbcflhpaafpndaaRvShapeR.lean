/- shaped at the forms without an immediate. -/
import Derived.Test.YtbcflhpaafpndaaRvShape
namespace Go.Proofs.Ytbcflhpaafpndaa
open Go.RowKit
set_option linter.unusedVariables false

theorem chain8 (w : World) (o0 o1 o2 o3 o4 o5 o6 o7 : Obj) : ((((((((w.alloc o0).alloc o1).alloc o2).alloc o3).alloc o4).alloc o5).alloc o6).alloc o7).heap[w.heap.size]? = some o0 ∧ ((((((((w.alloc o0).alloc o1).alloc o2).alloc o3).alloc o4).alloc o5).alloc o6).alloc o7).heap[w.heap.size + 1]? = some o1 ∧ ((((((((w.alloc o0).alloc o1).alloc o2).alloc o3).alloc o4).alloc o5).alloc o6).alloc o7).heap[w.heap.size + 1 + 1]? = some o2 ∧ ((((((((w.alloc o0).alloc o1).alloc o2).alloc o3).alloc o4).alloc o5).alloc o6).alloc o7).heap[w.heap.size + 1 + 1 + 1]? = some o3 ∧ ((((((((w.alloc o0).alloc o1).alloc o2).alloc o3).alloc o4).alloc o5).alloc o6).alloc o7).heap[w.heap.size + 1 + 1 + 1 + 1]? = some o4 ∧ ((((((((w.alloc o0).alloc o1).alloc o2).alloc o3).alloc o4).alloc o5).alloc o6).alloc o7).heap[w.heap.size + 1 + 1 + 1 + 1 + 1]? = some o5 ∧ ((((((((w.alloc o0).alloc o1).alloc o2).alloc o3).alloc o4).alloc o5).alloc o6).alloc o7).heap[w.heap.size + 1 + 1 + 1 + 1 + 1 + 1]? = some o6 ∧ ((((((((w.alloc o0).alloc o1).alloc o2).alloc o3).alloc o4).alloc o5).alloc o6).alloc o7).heap[w.heap.size + 1 + 1 + 1 + 1 + 1 + 1 + 1]? = some o7 ∧ Below w.heap.size w ((((((((w.alloc o0).alloc o1).alloc o2).alloc o3).alloc o4).alloc o5).alloc o6).alloc o7) := by
  have s1 : (w.alloc o0).heap.size = w.heap.size + 1 := by rw [World.size_alloc]
  have s2 : ((w.alloc o0).alloc o1).heap.size = w.heap.size + 1 + 1 := by rw [World.size_alloc, s1]
  have s3 : (((w.alloc o0).alloc o1).alloc o2).heap.size = w.heap.size + 1 + 1 + 1 := by rw [World.size_alloc, s2]
  have s4 : ((((w.alloc o0).alloc o1).alloc o2).alloc o3).heap.size = w.heap.size + 1 + 1 + 1 + 1 := by rw [World.size_alloc, s3]
  have s5 : (((((w.alloc o0).alloc o1).alloc o2).alloc o3).alloc o4).heap.size = w.heap.size + 1 + 1 + 1 + 1 + 1 := by rw [World.size_alloc, s4]
  have s6 : ((((((w.alloc o0).alloc o1).alloc o2).alloc o3).alloc o4).alloc o5).heap.size = w.heap.size + 1 + 1 + 1 + 1 + 1 + 1 := by rw [World.size_alloc, s5]
  have s7 : (((((((w.alloc o0).alloc o1).alloc o2).alloc o3).alloc o4).alloc o5).alloc o6).heap.size = w.heap.size + 1 + 1 + 1 + 1 + 1 + 1 + 1 := by rw [World.size_alloc, s6]
  have s8 : ((((((((w.alloc o0).alloc o1).alloc o2).alloc o3).alloc o4).alloc o5).alloc o6).alloc o7).heap.size = w.heap.size + 1 + 1 + 1 + 1 + 1 + 1 + 1 + 1 := by rw [World.size_alloc, s7]
  refine ⟨?_, ?_, ?_, ?_, ?_, ?_, ?_, ?_, ?_⟩
  · rw [heap_alloc_old _ _ (by omega), heap_alloc_old _ _ (by omega), heap_alloc_old _ _ (by omega), heap_alloc_old _ _ (by omega), heap_alloc_old _ _ (by omega), heap_alloc_old _ _ (by omega), heap_alloc_old _ _ (by omega), heap_alloc_new]
  · rw [heap_alloc_old _ _ (by omega), heap_alloc_old _ _ (by omega), heap_alloc_old _ _ (by omega), heap_alloc_old _ _ (by omega), heap_alloc_old _ _ (by omega), heap_alloc_old _ _ (by omega), ← s1, heap_alloc_new]
  · rw [heap_alloc_old _ _ (by omega), heap_alloc_old _ _ (by omega), heap_alloc_old _ _ (by omega), heap_alloc_old _ _ (by omega), heap_alloc_old _ _ (by omega), ← s2, heap_alloc_new]
  · rw [heap_alloc_old _ _ (by omega), heap_alloc_old _ _ (by omega), heap_alloc_old _ _ (by omega), heap_alloc_old _ _ (by omega), ← s3, heap_alloc_new]
  · rw [heap_alloc_old _ _ (by omega), heap_alloc_old _ _ (by omega), heap_alloc_old _ _ (by omega), ← s4, heap_alloc_new]
  · rw [heap_alloc_old _ _ (by omega), heap_alloc_old _ _ (by omega), ← s5, heap_alloc_new]
  · rw [heap_alloc_old _ _ (by omega), ← s6, heap_alloc_new]
  · rw [← s7, heap_alloc_new]
  · exact (((((((((Below.refl _ _).alloc (Nat.le_refl _) o0).alloc (by omega) o1).alloc (by omega) o2).alloc (by omega) o3).alloc (by omega) o4).alloc (by omega) o5).alloc (by omega) o6).alloc (by omega) o7)
set_option maxRecDepth 100000 in
set_option maxHeartbeats 1600000 in
theorem shaped_R (w : World) : Calls Try.prog 27 #[.string ⟨#[82]⟩] w (ShapePost rv.shR w) := by
  have HC := bl.hid (chain8 w (.cells #[.slice (some ⟨w.heap.size + 1 + 1 + 1 + 1 + 1 + 1 + 1, 0, none⟩) 3 3, .bool true, .int .i64 25, .int .i64 0, .int .i64 0, .int .i64 0] 69) (.cells #[.int .i64 0, .int .i64 5, .int .i64 7] 82) (.cells #[.int .i64 0, .int .i64 5, .int .i64 15] 82) (.cells #[.int .i64 0, .int .i64 5, .int .i64 20] 82) (.cells #[.func (.func 36) #[] #[], .slice (some ⟨w.heap.size + 1, 0, none⟩) 1 1] 85) (.cells #[.func (.func 37) #[] #[], .slice (some ⟨w.heap.size + 1 + 1, 0, none⟩) 1 1] 85) (.cells #[.func (.func 38) #[] #[], .slice (some ⟨w.heap.size + 1 + 1 + 1, 0, none⟩) 1 1] 85) (.cells #[.func (.func 36) #[] #[], .slice (some ⟨w.heap.size + 1, 0, none⟩) 1 1, .func (.func 37) #[] #[], .slice (some ⟨w.heap.size + 1 + 1, 0, none⟩) 1 1, .func (.func 38) #[] #[], .slice (some ⟨w.heap.size + 1 + 1 + 1, 0, none⟩) 1 1] 85))
  go_enter Try.func27, Try.ntmps27
  go_wp2
  generalize ((((((((w.alloc (.cells #[.slice (some ⟨w.heap.size + 1 + 1 + 1 + 1 + 1 + 1 + 1, 0, none⟩) 3 3, .bool true, .int .i64 25, .int .i64 0, .int .i64 0, .int .i64 0] 69)).alloc (.cells #[.int .i64 0, .int .i64 5, .int .i64 7] 82)).alloc (.cells #[.int .i64 0, .int .i64 5, .int .i64 15] 82)).alloc (.cells #[.int .i64 0, .int .i64 5, .int .i64 20] 82)).alloc (.cells #[.func (.func 36) #[] #[], .slice (some ⟨w.heap.size + 1, 0, none⟩) 1 1] 85)).alloc (.cells #[.func (.func 37) #[] #[], .slice (some ⟨w.heap.size + 1 + 1, 0, none⟩) 1 1] 85)).alloc (.cells #[.func (.func 38) #[] #[], .slice (some ⟨w.heap.size + 1 + 1 + 1, 0, none⟩) 1 1] 85)).alloc (.cells #[.func (.func 36) #[] #[], .slice (some ⟨w.heap.size + 1, 0, none⟩) 1 1, .func (.func 37) #[] #[], .slice (some ⟨w.heap.size + 1 + 1, 0, none⟩) 1 1, .func (.func 38) #[] #[], .slice (some ⟨w.heap.size + 1 + 1 + 1, 0, none⟩) 1 1] 85)) = W at *
  obtain ⟨h0, h1, h2, h3, h4, h5, h6, h7, hb⟩ := HC.out
  refine bodyPost_ret (results_cell_row rfl _ _ w.heap.size 69 _ (0, 0) _ rfl h0 Try.underlying69 rfl shape_info) rfl ?_
  exact ⟨_, w.heap.size + 1 + 1 + 1 + 1 + 1 + 1 + 1, fun _ => rfl, rfl, ⟨⟨w.heap.size + 1, (cell_of_row _ _ _ _ _ _ h7).trans rfl, (cell_of_row _ _ _ _ _ _ h7).trans rfl, ⟨(cell_of_row _ _ _ _ _ _ h1).trans rfl, (cell_of_row _ _ _ _ _ _ h1).trans rfl, (cell_of_row _ _ _ _ _ _ h1).trans rfl⟩, trivial⟩, ⟨w.heap.size + 1 + 1, (cell_of_row _ _ _ _ _ _ h7).trans rfl, (cell_of_row _ _ _ _ _ _ h7).trans rfl, ⟨(cell_of_row _ _ _ _ _ _ h2).trans rfl, (cell_of_row _ _ _ _ _ _ h2).trans rfl, (cell_of_row _ _ _ _ _ _ h2).trans rfl⟩, trivial⟩, ⟨w.heap.size + 1 + 1 + 1, (cell_of_row _ _ _ _ _ _ h7).trans rfl, (cell_of_row _ _ _ _ _ _ h7).trans rfl, ⟨(cell_of_row _ _ _ _ _ _ h3).trans rfl, (cell_of_row _ _ _ _ _ _ h3).trans rfl, (cell_of_row _ _ _ _ _ _ h3).trans rfl⟩, trivial⟩, trivial⟩, hb⟩
set_option maxRecDepth 100000 in
set_option maxHeartbeats 1600000 in
theorem shaped_E (w : World) : Calls Try.prog 27 #[.string ⟨#[69]⟩] w (ShapePost rv.shE w) := by
  have HF := bl.hid (first_of w)
  go_enter Try.func27, Try.ntmps27
  go_wp2
  generalize (((((((w.alloc (.cells #[.slice none 0 0, .bool false, .int .i64 0, .int .i64 0, .int .i64 0, .int .i64 0] 69)).alloc (.cells #[.int .i64 0, .int .i64 5, .int .i64 7] 82)).alloc (.cells #[.int .i64 0, .int .i64 5, .int .i64 15] 82)).alloc (.cells #[.int .i64 0, .int .i64 5, .int .i64 20] 82)).alloc (.cells #[.func (.func 36) #[] #[], .slice (some ⟨w.heap.size + 1, 0, none⟩) 1 1] 85)).alloc (.cells #[.func (.func 37) #[] #[], .slice (some ⟨w.heap.size + 1 + 1, 0, none⟩) 1 1] 85)).alloc (.cells #[.func (.func 38) #[] #[], .slice (some ⟨w.heap.size + 1 + 1 + 1, 0, none⟩) 1 1] 85)) = W at *
  refine bodyPost_ret (results_cell_row rfl _ _ w.heap.size 69 _ (0, 0) _ rfl HF.out.b0 Try.underlying69 rfl shape_info) rfl ?_
  exact ⟨none, 0, fun h => absurd h (by decide), rfl, trivial, HF.out.below⟩
end Go.Proofs.Ytbcflhpaafpndaa
