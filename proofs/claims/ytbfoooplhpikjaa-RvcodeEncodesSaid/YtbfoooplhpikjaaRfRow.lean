/- The reference's row, Name and Form. -/
import Derived.Test.YtbfoooplhpikjaaRfRows
import Derived.Test.YtbfoooplhpikjaaRvLaws
namespace Go.Proofs.Ytbfoooplhpikjaa
open Go.RowKit
set_option linter.unusedVariables false
set_option maxHeartbeats 800000 in
theorem rrow_ok (k : Nat) (w : World) (h0 : 1 ≤ k) (h1 : k < 64) :
    Calls Try.prog 30 #[.int .i64 k] w fun e w' => e = .returned (.tuple #[.agg (rv.cells (rv.row k)), .bool true]) ∧ Below w.heap.size w w' := by
  obtain ⟨j, rfl⟩ : ∃ j, k = j + 1 := ⟨k - 1, by omega⟩
  obtain ⟨r, hr⟩ : ∃ r, rv.row (j + 1) = r := ⟨_, rfl⟩
  have HC : Hid (∀ w B, RefAt w B → w.cell? ⟨B, j * 5, none⟩ = some (.string r.name) ∧ w.cell? ⟨B, j * 5 + 1, none⟩ = some (.string r.form) ∧ w.cell? ⟨B, j * 5 + 2, none⟩ = some (.int .u32 r.a) ∧ w.cell? ⟨B, j * 5 + 3, none⟩ = some (.int .u32 r.b) ∧ w.cell? ⟨B, j * 5 + 4, none⟩ = some (.int .u32 r.c)) := bl.hid (fun w B h => by rw [← hr]; exact h.cells j (by omega))
  rw [hr]
  clear hr
  obtain ⟨x, hx⟩ : ∃ x : Int, ((j + 1 : Nat) : Int) = x := ⟨_, rfl⟩
  rw [hx]
  have hxj : x = j + 1 := by omega
  have x0 : 1 ≤ x := by omega
  have x1 : x ≤ 63 := by omega
  clear hx
  have HX := bl.hid hxj
  clear hxj
  go_enter Try.func30, Try.ntmps30
  go_wp2_with fail
  refine (refrows _).mono ?_
  rintro e w1 ⟨B, rfl, hB0, hB1, hR, hb⟩
  obtain ⟨r0, hb1, hs1⟩ := one_box hb
  obtain ⟨c0, c1, c2, c3, c4⟩ := HC.out w1 B hR
  have hj : (x - 1).toNat = j := by have := HX.out; omega
  have HR0 := bl.hid r0
  have HB1 := bl.hid hb1
  clear hR hb r0 hb1
  go_wp2_with (refine wpList_store_row rfl 53 _ _ rfl w.heap.size (rv.cells r) rfl rfl 53 _ HR0.out rrow_info rfl (cells_one r) ?_)
  refine bodyPost_ret (kt.results_row_tmp rfl _ _ w.heap.size 53 (rv.cells r) (0, 0) _ rfl (setRow_heap _ _ _ _ _ _ HR0.out) Try.underlying53 rfl rrow_info) rfl ?_
  exact ⟨rfl, HB1.out.trans ⟨rfl, rfl, rfl, by simp, fun k hk => setRow_other _ _ _ _ (by omega)⟩⟩
set_option maxHeartbeats 800000 in
theorem rrow_no (x : Int) (w : World) (h : x < 1 ∨ 64 ≤ x) :
    Calls Try.prog 30 #[.int .i64 x] w fun e w' => e = .returned (.tuple #[.agg (rv.cells (rv.row 0)), .bool false]) ∧ Below w.heap.size w w' := by
  have h' : x < 1 ∨ (1 ≤ x ∧ 63 < x) := by omega
  clear h
  rcases h' with h | ⟨h0, h⟩
  all_goals
    go_enter Try.func30, Try.ntmps30
    go_wp2_with fail
    refine (refrows _).mono ?_
    rintro e w1 ⟨B, rfl, hB0, hB1, hR, hb⟩
    obtain ⟨r0, hb1, hs1⟩ := one_box hb
    have HR0 := bl.hid r0
    have HB1 := bl.hid hb1
    clear hR hb r0 hb1
    go_wp2_with (refine wpList_store_row rfl 53 _ _ rfl w.heap.size (rv.cells (rv.row 0)) rfl rfl 53 _ HR0.out rrow_info rfl (cells_one _) ?_)
    refine bodyPost_ret (kt.results_row_tmp rfl _ _ w.heap.size 53 (rv.cells (rv.row 0)) (0, 0) _ rfl (setRow_heap _ _ _ _ _ _ HR0.out) Try.underlying53 rfl rrow_info) rfl ?_
    exact ⟨rfl, HB1.out.trans ⟨rfl, rfl, rfl, by simp, fun k hk => setRow_other _ _ _ _ (by omega)⟩⟩
theorem rrow_any (op : Int) (w : World) : Calls Try.prog 30 #[.int .i64 op] w fun e w' => e = .returned (.tuple #[.agg (rv.cells (rv.rowI op)), .bool (rv.is op)]) ∧ Below w.heap.size w w' := by
  by_cases h : 1 ≤ op ∧ op < 64
  · obtain ⟨k, rfl⟩ : ∃ k : Nat, op = k := ⟨op.toNat, by omega⟩
    have hi : rv.is k = true := decide_eq_true h
    rw [show rv.rowI k = rv.row k by simp [rv.rowI, hi], hi]
    exact rrow_ok k w (by omega) (by omega)
  · have hi : rv.is op = false := decide_eq_false h
    rw [show rv.rowI op = rv.row 0 by simp [rv.rowI, hi], hi]
    exact rrow_no op w (by omega)
theorem rname_any (op : Int) (w : World) : Calls Try.prog 18 #[.int .i64 op] w fun e w' => e = .returned (.string (rv.rowI op).name) ∧ Below w.heap.size w w' := by
  go_enter Try.func18, Try.ntmps18
  go_wp2_with fail
  refine (rrow_any op _).mono ?_
  obtain ⟨r, hr⟩ : ∃ r, rv.rowI op = r := ⟨_, rfl⟩
  rw [hr]
  have HR := bl.hid hr
  clear hr
  unfold rv.cells
  rintro e w1 ⟨rfl, hb⟩
  go_wp2
  go_ret
  exact ⟨by rw [HR.out]; rfl, hb.alloc hb.size _⟩
theorem rform_any (op : Int) (w : World) : Calls Try.prog 20 #[.int .i64 op] w fun e w' => e = .returned (.string (rv.rowI op).form) ∧ Below w.heap.size w w' := by
  go_enter Try.func20, Try.ntmps20
  go_wp2_with fail
  refine (rrow_any op _).mono ?_
  obtain ⟨r, hr⟩ : ∃ r, rv.rowI op = r := ⟨_, rfl⟩
  rw [hr]
  have HR := bl.hid hr
  clear hr
  unfold rv.cells
  rintro e w1 ⟨rfl, hb⟩
  go_wp2
  go_ret
  exact ⟨by rw [HR.out]; rfl, hb.alloc hb.size _⟩
end Go.Proofs.Ytbfoooplhpikjaa
