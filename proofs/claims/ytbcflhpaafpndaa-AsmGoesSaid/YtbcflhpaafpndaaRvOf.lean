/- of: the row of an operation. -/
import Derived.Test.YtbcflhpaafpndaaRvRows
namespace Go.Proofs.Ytbcflhpaafpndaa
open Go.RowKit
set_option linter.unusedVariables false

/-- the table, its cells out of sight -/
structure Tab (R : Array Value) : Prop where
  call : ∀ w, Calls Try.prog 26 #[] w fun e w' => e = .returned (.agg R) ∧ Below w.heap.size w w'
  size : R.size = 320
  one : R.all (·.oneCell') = true
  at' : ∀ k j, k < 64 → j < 5 → R[k * 5 + j]? = (rv.cells (rv.row k))[j]?
theorem tab : ∃ R, Tab R := ⟨rowsArr, rows_any, rowsArr_size, rowsArr_one, fun k j hk hj => rowsArr_at k j hk hj⟩
/-- an empty array of rows, its cells out of sight -/
theorem ztab : ∃ z : Array Value, (∀ w, (zeroValue 65).run Try.prog w = .ok (.agg z) w) ∧ Hid (z.size = 320) := ⟨zeroArr, zeroArr_run, bl.hid zeroArr_size⟩
def zrow : Array Value := #[.string ⟨#[]⟩, .string ⟨#[]⟩, .int .u32 0, .int .u32 0, .int .u32 0]
theorem row_info : (Try.prog.info? 64).map (·.size) = some 5 := by kernel_rfl
theorem cells_one (r : rv.Row) : (rv.cells r).all (·.oneCell') = true := by simp [rv.cells, Value.oneCell']
set_option maxHeartbeats 800000 in
theorem of_ok (k : Nat) (w : World) (h0 : 1 ≤ k) (h1 : k < 64) :
    Calls Try.prog 33 #[.int .i64 k] w fun e w' => e = .returned (.tuple #[.agg (rv.cells (rv.row k)), .bool true]) ∧ Below w.heap.size w w' := by
  obtain ⟨R, T⟩ := tab
  obtain ⟨z, hz, hzs⟩ := ztab
  have HI : Hid ((Try.prog.info? 65).map (·.size) = some R.size) := bl.hid (by rw [T.size]; exact rowsArr_info)
  have HS : Hid (z.size = R.size) := bl.hid (by rw [hzs.out, T.size])
  obtain ⟨r, hr⟩ : ∃ r, rv.row k = r := ⟨_, rfl⟩
  have a0 : R[k * 5]? = some (.string r.name) := by rw [← hr]; exact T.at' k 0 h1 (by omega)
  have a1 : R[k * 5 + 1]? = some (.string r.form) := by rw [← hr]; exact T.at' k 1 h1 (by omega)
  have a2 : R[k * 5 + 2]? = some (.int .u32 r.a) := by rw [← hr]; exact T.at' k 2 h1 (by omega)
  have a3 : R[k * 5 + 3]? = some (.int .u32 r.b) := by rw [← hr]; exact T.at' k 3 h1 (by omega)
  have a4 : R[k * 5 + 4]? = some (.int .u32 r.c) := by rw [← hr]; exact T.at' k 4 h1 (by omega)
  rw [hr]
  have HT := bl.hid T
  clear T hr
  have n1 : decide ((k : Int) < 1) = false := decide_eq_false (by omega)
  have n2 : decide ((k : Int) ≥ 64) = false := decide_eq_false (by omega)
  have n3 : (k : Int) < 64 := by omega
  go_enter Try.func33, Try.ntmps33
  go_wp2_with fail
  refine (HT.out.call _).mono ?_
  rintro e w1 ⟨rfl, hb⟩
  have hg1 : (w1.alloc (.cells R 65)).heap[w.heap.size]? = some (.cells zrow 64 (0, 0)) := by
    have hs := hb.size
    rw [heap_alloc_old _ _ (by simp at hs; omega), hb.block _ (by simp), heap_alloc_new]
    rfl
  have HG := bl.hid hg1
  have hb1 : Below w.heap.size w (w1.alloc (.cells R 65)) := ((kt.below_row _).trans (hb.mono (by simp))).alloc (by have := hb.size; simp at this; omega) _
  clear hg1 hb
  go_wp2_with (first | (refine kt.wpList_alloc_row rfl 65 rfl z hz ?_) | (refine kt.wpList_store_row_new rfl 65 _ _ rfl rfl z R rfl rfl HI.out HS.out HT.out.one ?_) | (refine wpList_store_row rfl 64 _ _ rfl w.heap.size (rv.cells r) rfl rfl 64 zrow HG.out row_info rfl (cells_one r) ?_))
  refine bodyPost_ret (kt.results_row_tmp rfl _ _ w.heap.size 64 (rv.cells r) (0, 0) _ rfl (setRow_heap _ _ _ _ _ _ HG.out) Try.underlying64 rfl row_info) rfl ?_
  exact ⟨rfl, hb1.trans ⟨rfl, rfl, rfl, by simp, fun k hk => setRow_other _ _ _ _ (by omega)⟩⟩
set_option maxHeartbeats 800000 in
theorem of_no (k : Int) (w : World) (h : k < 1 ∨ 64 ≤ k) :
    Calls Try.prog 33 #[.int .i64 k] w fun e w' => e = .returned (.tuple #[.agg (rv.cells (rv.row 0)), .bool false]) ∧ Below w.heap.size w w' := by
  obtain ⟨R, T⟩ := tab
  obtain ⟨z, hz, hzs⟩ := ztab
  have HI : Hid ((Try.prog.info? 65).map (·.size) = some R.size) := bl.hid (by rw [T.size]; exact rowsArr_info)
  have HS : Hid (z.size = R.size) := bl.hid (by rw [hzs.out, T.size])
  have HT := bl.hid T
  clear T
  by_cases n1 : k < 1
  · have d1 : decide (k < 1) = true := decide_eq_true n1
    clear h n1
    go_enter Try.func33, Try.ntmps33
    go_wp2_with fail
    refine (HT.out.call _).mono ?_
    rintro e w1 ⟨rfl, hb⟩
    have hg1 : (w1.alloc (.cells R 65)).heap[w.heap.size]? = some (.cells zrow 64 (0, 0)) := by
      have hs := hb.size
      rw [heap_alloc_old _ _ (by simp at hs; omega), hb.block _ (by simp), heap_alloc_new]
      rfl
    have HG := bl.hid hg1
    have hb1 : Below w.heap.size w (w1.alloc (.cells R 65)) := ((kt.below_row _).trans (hb.mono (by simp))).alloc (by have := hb.size; simp at this; omega) _
    clear hg1 hb
    go_wp2_with (first | (refine kt.wpList_alloc_row rfl 65 rfl z hz ?_) | (refine kt.wpList_store_row_new rfl 65 _ _ rfl rfl z R rfl rfl HI.out HS.out HT.out.one ?_) | (refine wpList_store_row rfl 64 _ _ rfl w.heap.size (rv.cells (rv.row 0)) rfl rfl 64 zrow HG.out row_info rfl (cells_one _) ?_))
    refine bodyPost_ret (kt.results_row_tmp rfl _ _ w.heap.size 64 (rv.cells (rv.row 0)) (0, 0) _ rfl (setRow_heap _ _ _ _ _ _ HG.out) Try.underlying64 rfl row_info) rfl ?_
    exact ⟨rfl, hb1.trans ⟨rfl, rfl, rfl, by simp, fun k hk => setRow_other _ _ _ _ (by omega)⟩⟩
  · have d1 : decide (k < 1) = false := decide_eq_false n1
    have d2 : decide (64 ≤ k) = true := decide_eq_true (by omega)
    clear h n1
    go_enter Try.func33, Try.ntmps33
    go_wp2_with fail
    refine (HT.out.call _).mono ?_
    rintro e w1 ⟨rfl, hb⟩
    have hg1 : (w1.alloc (.cells R 65)).heap[w.heap.size]? = some (.cells zrow 64 (0, 0)) := by
      have hs := hb.size
      rw [heap_alloc_old _ _ (by simp at hs; omega), hb.block _ (by simp), heap_alloc_new]
      rfl
    have HG := bl.hid hg1
    have hb1 : Below w.heap.size w (w1.alloc (.cells R 65)) := ((kt.below_row _).trans (hb.mono (by simp))).alloc (by have := hb.size; simp at this; omega) _
    clear hg1 hb
    go_wp2_with (first | (refine kt.wpList_alloc_row rfl 65 rfl z hz ?_) | (refine kt.wpList_store_row_new rfl 65 _ _ rfl rfl z R rfl rfl HI.out HS.out HT.out.one ?_) | (refine wpList_store_row rfl 64 _ _ rfl w.heap.size (rv.cells (rv.row 0)) rfl rfl 64 zrow HG.out row_info rfl (cells_one _) ?_))
    refine bodyPost_ret (kt.results_row_tmp rfl _ _ w.heap.size 64 (rv.cells (rv.row 0)) (0, 0) _ rfl (setRow_heap _ _ _ _ _ _ HG.out) Try.underlying64 rfl row_info) rfl ?_
    exact ⟨rfl, hb1.trans ⟨rfl, rfl, rfl, by simp, fun k hk => setRow_other _ _ _ _ (by omega)⟩⟩
namespace rv
/-- is that an operation -/
def is (op : Int) : Bool := decide (1 ≤ op ∧ op < 64)
/-- the row of any number -/
def rowI (op : Int) : Row := if is op then row op.toNat else row 0
end rv
theorem of_any (op : Int) (w : World) : Calls Try.prog 33 #[.int .i64 op] w fun e w' => e = .returned (.tuple #[.agg (rv.cells (rv.rowI op)), .bool (rv.is op)]) ∧ Below w.heap.size w w' := by
  by_cases h : 1 ≤ op ∧ op < 64
  · obtain ⟨k, rfl⟩ : ∃ k : Nat, op = k := ⟨op.toNat, by omega⟩
    have hi : rv.is k = true := decide_eq_true h
    rw [show rv.rowI k = rv.row k by simp [rv.rowI, hi], hi]
    exact of_ok k w (by omega) (by omega)
  · have hi : rv.is op = false := decide_eq_false h
    rw [show rv.rowI op = rv.row 0 by simp [rv.rowI, hi], hi]
    exact of_no op w (by omega)
theorem form_any (op : Int) (w : World) : Calls Try.prog 20 #[.int .i64 op] w fun e w' => e = .returned (.string (rv.rowI op).form) ∧ Below w.heap.size w w' := by
  go_enter Try.func20, Try.ntmps20
  go_wp2_with fail
  refine (of_any op _).mono ?_
  obtain ⟨r, hr⟩ : ∃ r, rv.rowI op = r := ⟨_, rfl⟩
  rw [hr]
  have HR := bl.hid hr
  clear hr
  unfold rv.cells
  rintro e w1 ⟨rfl, hb⟩
  go_wp2
  go_ret
  exact ⟨by rw [HR.out]; rfl, hb.alloc hb.size _⟩
end Go.Proofs.Ytbcflhpaafpndaa
