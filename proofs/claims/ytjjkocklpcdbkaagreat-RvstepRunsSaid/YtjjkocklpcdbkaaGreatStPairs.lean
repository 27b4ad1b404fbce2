/- pairings: how two words are made one, by the operation: as plain data, and walked. -/
import Derived.Test.YtjjkocklpcdbkaaGreatStSizes
import Derived.Test.YtjjkocklpcdbkaaGreatGr1
namespace Go.Proofs.YtjjkocklpcdbkaaGreat
open Go.RowKit
set_option linter.unusedVariables false
set_option maxRecDepth 100000
namespace st
/-- the function, whether of low halves, whether of the immediate -/
def pr : Nat → Int × Bool × Bool
  | 22 => (1, false, true)
  | 23 => (17, false, true)
  | 24 => (18, false, true)
  | 25 => (13, false, true)
  | 26 => (12, false, true)
  | 27 => (11, false, true)
  | 28 => (14, false, true)
  | 29 => (15, false, true)
  | 30 => (16, false, true)
  | 31 => (1, true, true)
  | 32 => (14, true, true)
  | 33 => (15, true, true)
  | 34 => (16, true, true)
  | 35 => (1, false, false)
  | 36 => (2, false, false)
  | 37 => (14, false, false)
  | 38 => (17, false, false)
  | 39 => (18, false, false)
  | 40 => (13, false, false)
  | 41 => (15, false, false)
  | 42 => (16, false, false)
  | 43 => (12, false, false)
  | 44 => (11, false, false)
  | 45 => (1, true, false)
  | 46 => (2, true, false)
  | 47 => (14, true, false)
  | 48 => (15, true, false)
  | 49 => (16, true, false)
  | 50 => (3, false, false)
  | 51 => (4, false, false)
  | 52 => (6, false, false)
  | 53 => (5, false, false)
  | 54 => (7, false, false)
  | 55 => (8, false, false)
  | 56 => (9, false, false)
  | 57 => (10, false, false)
  | 58 => (3, true, false)
  | 59 => (7, true, false)
  | 60 => (8, true, false)
  | 61 => (9, true, false)
  | 62 => (10, true, false)
  | _ => (0, false, false)
def prRow (k : Nat) : Array Value := #[.int .i64 (pr k).1, .bool (pr k).2.1, .bool (pr k).2.2]
def prArr : Array Value := #[.int .i64 0, .bool false, .bool false, .int .i64 0, .bool false, .bool false, .int .i64 0, .bool false, .bool false, .int .i64 0, .bool false, .bool false, .int .i64 0, .bool false, .bool false, .int .i64 0, .bool false, .bool false, .int .i64 0, .bool false, .bool false, .int .i64 0, .bool false, .bool false, .int .i64 0, .bool false, .bool false, .int .i64 0, .bool false, .bool false, .int .i64 0, .bool false, .bool false, .int .i64 0, .bool false, .bool false, .int .i64 0, .bool false, .bool false, .int .i64 0, .bool false, .bool false, .int .i64 0, .bool false, .bool false, .int .i64 0, .bool false, .bool false, .int .i64 0, .bool false, .bool false, .int .i64 0, .bool false, .bool false, .int .i64 0, .bool false, .bool false, .int .i64 0, .bool false, .bool false, .int .i64 0, .bool false, .bool false, .int .i64 0, .bool false, .bool false, .int .i64 1, .bool false, .bool true, .int .i64 17, .bool false, .bool true, .int .i64 18, .bool false, .bool true, .int .i64 13, .bool false, .bool true, .int .i64 12, .bool false, .bool true, .int .i64 11, .bool false, .bool true, .int .i64 14, .bool false, .bool true, .int .i64 15, .bool false, .bool true, .int .i64 16, .bool false, .bool true, .int .i64 1, .bool true, .bool true, .int .i64 14, .bool true, .bool true, .int .i64 15, .bool true, .bool true, .int .i64 16, .bool true, .bool true, .int .i64 1, .bool false, .bool false, .int .i64 2, .bool false, .bool false, .int .i64 14, .bool false, .bool false, .int .i64 17, .bool false, .bool false, .int .i64 18, .bool false, .bool false, .int .i64 13, .bool false, .bool false, .int .i64 15, .bool false, .bool false, .int .i64 16, .bool false, .bool false, .int .i64 12, .bool false, .bool false, .int .i64 11, .bool false, .bool false, .int .i64 1, .bool true, .bool false, .int .i64 2, .bool true, .bool false, .int .i64 14, .bool true, .bool false, .int .i64 15, .bool true, .bool false, .int .i64 16, .bool true, .bool false, .int .i64 3, .bool false, .bool false, .int .i64 4, .bool false, .bool false, .int .i64 6, .bool false, .bool false, .int .i64 5, .bool false, .bool false, .int .i64 7, .bool false, .bool false, .int .i64 8, .bool false, .bool false, .int .i64 9, .bool false, .bool false, .int .i64 10, .bool false, .bool false, .int .i64 3, .bool true, .bool false, .int .i64 7, .bool true, .bool false, .int .i64 8, .bool true, .bool false, .int .i64 9, .bool true, .bool false, .int .i64 10, .bool true, .bool false, .int .i64 0, .bool false, .bool false]
def prZero : Array Value := #[.int .i64 0, .bool false, .bool false, .int .i64 0, .bool false, .bool false, .int .i64 0, .bool false, .bool false, .int .i64 0, .bool false, .bool false, .int .i64 0, .bool false, .bool false, .int .i64 0, .bool false, .bool false, .int .i64 0, .bool false, .bool false, .int .i64 0, .bool false, .bool false, .int .i64 0, .bool false, .bool false, .int .i64 0, .bool false, .bool false, .int .i64 0, .bool false, .bool false, .int .i64 0, .bool false, .bool false, .int .i64 0, .bool false, .bool false, .int .i64 0, .bool false, .bool false, .int .i64 0, .bool false, .bool false, .int .i64 0, .bool false, .bool false, .int .i64 0, .bool false, .bool false, .int .i64 0, .bool false, .bool false, .int .i64 0, .bool false, .bool false, .int .i64 0, .bool false, .bool false, .int .i64 0, .bool false, .bool false, .int .i64 0, .bool false, .bool false, .int .i64 0, .bool false, .bool false, .int .i64 0, .bool false, .bool false, .int .i64 0, .bool false, .bool false, .int .i64 0, .bool false, .bool false, .int .i64 0, .bool false, .bool false, .int .i64 0, .bool false, .bool false, .int .i64 0, .bool false, .bool false, .int .i64 0, .bool false, .bool false, .int .i64 0, .bool false, .bool false, .int .i64 0, .bool false, .bool false, .int .i64 0, .bool false, .bool false, .int .i64 0, .bool false, .bool false, .int .i64 0, .bool false, .bool false, .int .i64 0, .bool false, .bool false, .int .i64 0, .bool false, .bool false, .int .i64 0, .bool false, .bool false, .int .i64 0, .bool false, .bool false, .int .i64 0, .bool false, .bool false, .int .i64 0, .bool false, .bool false, .int .i64 0, .bool false, .bool false, .int .i64 0, .bool false, .bool false, .int .i64 0, .bool false, .bool false, .int .i64 0, .bool false, .bool false, .int .i64 0, .bool false, .bool false, .int .i64 0, .bool false, .bool false, .int .i64 0, .bool false, .bool false, .int .i64 0, .bool false, .bool false, .int .i64 0, .bool false, .bool false, .int .i64 0, .bool false, .bool false, .int .i64 0, .bool false, .bool false, .int .i64 0, .bool false, .bool false, .int .i64 0, .bool false, .bool false, .int .i64 0, .bool false, .bool false, .int .i64 0, .bool false, .bool false, .int .i64 0, .bool false, .bool false, .int .i64 0, .bool false, .bool false, .int .i64 0, .bool false, .bool false, .int .i64 0, .bool false, .bool false, .int .i64 0, .bool false, .bool false, .int .i64 0, .bool false, .bool false, .int .i64 0, .bool false, .bool false, .int .i64 0, .bool false, .bool false]
theorem prArr_size : prArr.size = 192 := by kernel_rfl
theorem prZero_size : prZero.size = 192 := by kernel_rfl
theorem prArr_one : prArr.all (·.oneCell') = true := by decide +kernel
theorem prArr_flat : prArr = ((List.range 64).flatMap fun k => (prRow k).toList).toArray := by kernel_rfl
theorem flat3 (f : Nat → List Value) (hf : ∀ k, (f k).length = 3) : ∀ n, ((List.range n).flatMap f).length = n * 3 ∧ ∀ k j, k < n → j < 3 → ((List.range n).flatMap f)[k * 3 + j]? = (f k)[j]?
  | 0 => ⟨rfl, fun k j h => by omega⟩
  | n + 1 => by
    obtain ⟨h1, h2⟩ := flat3 f hf n
    have e : (List.range (n + 1)).flatMap f = (List.range n).flatMap f ++ f n := by rw [List.range_succ, List.flatMap_append]; simp
    rw [e]
    refine ⟨by rw [List.length_append, h1, hf]; omega, fun k j hk hj => ?_⟩
    by_cases hkn : k < n
    · rw [List.getElem?_append_left (by omega)]
      exact h2 k j hkn hj
    · obtain rfl : k = n := by omega
      rw [List.getElem?_append_right (by omega), h1]
      congr 1
      omega
theorem prArr_at (k j : Nat) (hk : k < 64) (hj : j < 3) : prArr[k * 3 + j]? = (prRow k)[j]? := by
  rw [prArr_flat, List.getElem?_toArray, (flat3 _ (fun _ => rfl) 64).2 k j hk hj]
  simp
end st
theorem prZero_run (w : World) : (zeroValue 151).run Tryz.prog w = .ok (.agg st.prZero) w := by kernel_rfl
theorem prArr_info : (Tryz.prog.info? 151).map (·.size) = some 192 := by kernel_rfl
set_option maxRecDepth 100000 in
set_option maxHeartbeats 1600000 in
theorem pairings_any (w : World) : Calls Tryz.prog 106 #[] w fun e w' => e = .returned (.agg st.prArr) ∧ Below w.heap.size w w' := by
  obtain ⟨z, hz, hzs⟩ : ∃ z : Array Value, (∀ w, (zeroValue 151).run Tryz.prog w = .ok (.agg z) w) ∧ Hid (z.size = st.prArr.size) := ⟨st.prZero, prZero_run, bl.hid (by rw [st.prZero_size, st.prArr_size])⟩
  have hi : Hid ((Tryz.prog.info? 151).map (·.size) = some st.prArr.size) := bl.hid (by rw [st.prArr_size]; exact prArr_info)
  go_enter Tryz.func106, Tryz.ntmps106
  refine wp_seq_k (fun K hK => ?_)
  refine wp_region_lit ?_
  refine kt.wpList_alloc_row rfl _ rfl z hz ?_
  refine wpList_nil ?_
  refine hK _ _ ?_
  clear hK K
  refine wp_seq_k (fun K hK => ?_)
  refine wp_region_lit ?_
  iterate 43 (refine wpList_build rfl _ _ rfl (by kernel_rfl) ?_)
  refine kt.wpList_store_row_new rfl 151 _ _ rfl rfl z st.prArr (by kernel_rfl) (by kernel_rfl) hi.out hzs.out st.prArr_one ?_
  refine wpList_nil ?_
  refine hK _ _ ?_
  clear hK K
  refine wp_ret ?_
  refine bodyPost_ret (results_cell_row rfl _ _ w.heap.size 151 st.prArr (0, 0) _ (by kernel_rfl) (heap_alloc_last _ _) Tryz.underlying151 rfl hi.out) (by kernel_rfl) ?_
  exact ⟨rfl, kt.below_row _⟩
theorem pair_index (k : Nat) (hk : k < 64) (w : World) : (Instr.index 151 (.agg st.prArr) (.int .i64 k)).run Tryz.prog w = .ok (.agg (st.prRow k)) w := by
  have e : st.prArr.extract (k * 3) (k * 3 + 3) = st.prRow k := by
    apply Array.ext_getElem?
    intro j
    rw [Array.getElem?_extract]
    have hs : min (k * 3 + 3) st.prArr.size - k * 3 = 3 := by rw [st.prArr_size]; omega
    rw [hs]
    by_cases hj : j < 3
    · rw [if_pos hj]
      exact st.prArr_at k j hk hj
    · rw [if_neg hj]
      rw [Array.getElem?_eq_none]
      show 3 ≤ j
      omega
  simp [Instr.index, run_underlying Tryz.underlying151, asIntOf, part, hk, go_sem]
  rw [e]
end Go.Proofs.YtjjkocklpcdbkaaGreat
