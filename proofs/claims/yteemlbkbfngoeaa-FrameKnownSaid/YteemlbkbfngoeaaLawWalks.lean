/- The five statements of the frame layer, walked: each returns true. -/
import Derived.Test.YteemlbkbfngoeaaAny
namespace Go.Proofs.Yteemlbkbfngoeaa
open Go.RowKit
set_option linter.unusedVariables false

theorem slot_in (t r : Int) (w : World) (h0 : 0 ≤ t) (h1 : 0 ≤ r) (h2 : t + 8 * r < 18446744073709551616) : Calls Try.prog 10 #[.int .u64 t, .int .i64 r] w fun e w' => e = .returned (.int .u64 (t + 8 * r)) ∧ w = w' :=
  slot_at t r _ w (Int.emod_eq_of_lt (by omega) h2)
theorem area_in (t r n : Int) (w : World) (h0 : 0 ≤ t) (h1 : 0 ≤ r) (h3 : 0 ≤ n) (h2 : t + 8 * r + n < 18446744073709551616) : Calls Try.prog 12 #[.int .u64 t, .int .i64 r, .int .i64 n] w fun e w' => e = .returned (.int .u64 (t + 8 * r + n)) ∧ w = w' :=
  area_at t r n _ w (Int.emod_eq_of_lt (by omega) h2)

set_option maxRecDepth 100000 in
set_option maxHeartbeats 800000 in
theorem tells_walk (a0 a1 a2 a3 : Int) (w0 : (Lit.int .u64 a0).wf = true) (w1 : (Lit.int .i64 a1).wf = true) (w2 : (Lit.int .i64 a2).wf = true) (w3 : (Lit.int .i64 a3).wf = true) (w : World) :
    Calls Try.prog 3 #[.int .u64 a0, .int .i64 a1, .int .i64 a2, .int .i64 a3] w fun e w' => e = .returned (.bool true) ∧ Below w.heap.size w w' := by
  have x0 := bl.wf_u64 w0
  have x1 := bl.wf_i64 w1
  have x2 := bl.wf_i64 w2
  have x3 := bl.wf_i64 w3
  clear w0 w1 w2 w3
  go_enter Try.func3, Try.ntmps3
  go_wp2_with fail
  refine (size_any a1 a2 _).mono ?_
  rintro e w' ⟨rfl, rfl⟩
  go_wp2_with fail
  refine (rsize_any a1 a2 _).mono ?_
  rintro e w' ⟨rfl, rfl⟩
  go_wp2_with fail
  refine (slot_any a0 a3 _).mono ?_
  rintro e w' ⟨rfl, rfl⟩
  go_wp2_with fail
  refine (rslot_any a0 a3 _).mono ?_
  rintro e w' ⟨rfl, rfl⟩
  go_wp2_with fail
  refine (area_any a0 a1 a3 _).mono ?_
  rintro e w' ⟨rfl, rfl⟩
  go_wp2_with fail
  refine (rarea_any a0 a1 a3 _).mono ?_
  rintro e w' ⟨rfl, rfl⟩
  go_wp2_with fail
  refine (awake_true _).mono ?_
  rintro e w' ⟨rfl, rfl⟩
  go_wp2
  go_ret
  exact ⟨rfl, Below.refl _ _⟩

set_option maxRecDepth 100000 in
set_option maxHeartbeats 800000 in
theorem pushes_walk (a0 a1 a2 a3 a4 : Int) (w0 : (Lit.int .u64 a0).wf = true) (w1 : (Lit.int .i64 a1).wf = true) (w2 : (Lit.int .i64 a2).wf = true) (w3 : (Lit.int .u64 a3).wf = true) (w4 : (Lit.int .i64 a4).wf = true) (w : World) :
    Calls Try.prog 5 #[.int .u64 a0, .int .i64 a1, .int .i64 a2, .int .u64 a3, .int .i64 a4] w fun e w' => e = .returned (.bool true) ∧ Below w.heap.size w w' := by
  have x0 := bl.wf_u64 w0
  have x1 := bl.wf_i64 w1
  have x2 := bl.wf_i64 w2
  have x3 := bl.wf_u64 w3
  have x4 := bl.wf_i64 w4
  clear w0 w1 w2 w3 w4
  go_enter Try.func5, Try.ntmps5
  go_wp2_with fail
  refine (floor_any a4 _).mono ?_
  rintro e w' ⟨rfl, rfl⟩
  go_wp2_with fail
  refine (rfloor_any a4 _).mono ?_
  rintro e w' ⟨rfl, rfl⟩
  go_wp2_with fail
  refine (top_any a4 _).mono ?_
  rintro e w' ⟨rfl, rfl⟩
  go_wp2_with fail
  refine (rtop_any a4 _).mono ?_
  rintro e w' ⟨rfl, rfl⟩
  go_wp2_with fail
  refine (push_any a0 a1 a2 a3 _ x0.1 x3.1).mono ?_
  rintro e w' ⟨rfl, rfl⟩
  go_wp2_with fail
  refine (rpush_any a0 a1 a2 a3 _ x0.1 x3.1).mono ?_
  rintro e w' ⟨rfl, rfl⟩
  go_wp2_with fail
  refine (pop_any a0 a1 a2 _ x0.1).mono ?_
  rintro e w' ⟨rfl, rfl⟩
  go_wp2_with fail
  refine (rpop_any a0 a1 a2 _ x0.1).mono ?_
  rintro e w' ⟨rfl, rfl⟩
  go_wp2_with fail
  refine (awake_true _).mono ?_
  rintro e w' ⟨rfl, rfl⟩
  go_wp2
  go_ret
  exact ⟨rfl, Below.refl _ _⟩

set_option maxRecDepth 100000 in
set_option maxHeartbeats 800000 in
theorem known_walk  (w : World) :
    Calls Try.prog 6 #[] w fun e w' => e = .returned (.bool true) ∧ Below w.heap.size w w' := by
  go_enter Try.func6, Try.ntmps6
  go_wp2_with fail
  refine (size_no 65 0 _ (by omega)).mono ?_
  rintro e w' ⟨rfl, rfl⟩
  go_wp2_with fail
  refine (floor_ok 0 _ (by omega) (by omega)).mono ?_
  rintro e w' ⟨rfl, rfl⟩
  go_wp2_with fail
  refine (floor_ok 1 _ (by omega) (by omega)).mono ?_
  rintro e w' ⟨rfl, rfl⟩
  go_wp2_with fail
  refine (top_ok 100 _ (by omega) (by omega)).mono ?_
  rintro e w' ⟨rfl, rfl⟩
  go_wp2_with fail
  refine (top_no 15 _ (by omega)).mono ?_
  rintro e w' ⟨rfl, rfl⟩
  go_wp2_with fail
  refine (pop_ok 64 3 5 _ (by omega) (by omega) (by omega) (by omega) (by omega) (by omega) (by omega)).mono ?_
  rintro e w' ⟨rfl, rfl⟩
  go_wp2_with fail
  refine (awake_true _).mono ?_
  rintro e w' ⟨rfl, rfl⟩
  go_wp2_with fail
  refine (pushed_yes 64 32 _ (by omega) (by omega) (by omega) (by omega) (by omega)).mono ?_
  rintro e w' ⟨rfl, rfl⟩
  go_wp2_with fail
  refine (pushed_full _).mono ?_
  rintro e w' ⟨rfl, rfl⟩
  go_wp2_with fail
  refine (pushed_odd _).mono ?_
  rintro e w' ⟨rfl, rfl⟩
  go_wp2
  go_ret
  exact ⟨rfl, Below.refl _ _⟩

set_option maxRecDepth 100000 in
set_option maxHeartbeats 800000 in
theorem more_walk (a0 a1 a2 a3 a4 a5 : Int) (w0 : (Lit.int .i64 a0).wf = true) (w1 : (Lit.int .i64 a1).wf = true) (w2 : (Lit.int .i64 a2).wf = true) (w3 : (Lit.int .i64 a3).wf = true) (w4 : (Lit.int .i64 a4).wf = true) (w5 : (Lit.int .i64 a5).wf = true) (w : World) :
    Calls Try.prog 4 #[.int .i64 a0, .int .i64 a1, .int .i64 a2, .int .i64 a3, .int .i64 a4, .int .i64 a5] w fun e w' => e = .returned (.bool true) ∧ Below w.heap.size w w' := by
  have x0 := bl.wf_i64 w0
  have x1 := bl.wf_i64 w1
  have x2 := bl.wf_i64 w2
  have x3 := bl.wf_i64 w3
  have x4 := bl.wf_i64 w4
  have x5 := bl.wf_i64 w5
  clear w0 w1 w2 w3 w4 w5
  go_enter Try.func4, Try.ntmps4
  go_wp2_with fail
  refine (awake_true _).mono ?_
  rintro e w' ⟨rfl, rfl⟩
  go_wp2_with fail
  refine (pick_any a0 65 _ (by omega) (by omega) (by omega) (by omega)).mono ?_
  rintro e w' ⟨r, hr1, hr2, rfl, rfl⟩
  go_wp2_with fail
  refine (pick_any a1 4097 _ (by omega) (by omega) (by omega) (by omega)).mono ?_
  rintro e w' ⟨a, ha1, ha2, rfl, rfl⟩
  go_wp2_with fail
  refine (pick_any a2 _ _ (by omega) (by omega) (by omega) (by omega)).mono ?_
  rintro e w' ⟨m, hm1, hm2, rfl, rfl⟩
  go_wp2_with fail
  refine (pick_any a3 _ _ (by omega) (by omega) (by omega) (by omega)).mono ?_
  rintro e w' ⟨d, hd1, hd2, rfl, rfl⟩
  go_wp2_with fail
  refine (size_ok r a _ (by omega) (by omega) (by omega) (by omega)).mono ?_
  rintro e w' ⟨rfl, rfl⟩
  go_wp2_with fail
  refine (size_ok _ _ _ (by omega) (by omega) (by omega) (by omega)).mono ?_
  rintro e w' ⟨rfl, rfl⟩
  go_wp2_with fail
  refine (pick_any a4 4097 _ (by omega) (by omega) (by omega) (by omega)).mono ?_
  rintro e w' ⟨q, hq1, hq2, rfl, rfl⟩
  go_wp2_with fail
  refine (pick_any a5 4097 _ (by omega) (by omega) (by omega) (by omega)).mono ?_
  rintro e w' ⟨f, hf1, hf2, rfl, rfl⟩
  clear x0 x1 x2 x3 x4 x5
  by_cases c1 : 16 * q < 16 * f + (8 * r + a + 15) / 16 * 16
  · go_wp2_with fail
    refine (push_full _ r a _ _ (by omega) (by omega) (by omega) (by omega) (by omega) (by omega) (by omega) (by omega) (by omega) (by omega) (by omega)).mono ?_
    rintro e w' ⟨rfl, rfl⟩
    go_wp2_with fail
    refine (push_full _ (r + m) (a + d) _ _ (by omega) (by omega) (by omega) (by omega) (by omega) (by omega) (by omega) (by omega) (by omega) (by omega) (by omega)).mono ?_
    rintro e w' ⟨rfl, rfl⟩
    go_wp2_with fail
    refine (slot_in _ _ _ (by omega) (by omega) (by omega)).mono ?_
    rintro e w' ⟨rfl, rfl⟩
    go_wp2_with fail
    refine (slot_in _ _ _ (by omega) (by omega) (by omega)).mono ?_
    rintro e w' ⟨rfl, rfl⟩
    go_wp2
    go_ret
    exact ⟨bl.ret1 (bl.bool_eq (by rw [beq_iff_eq]; omega)), Below.refl _ _⟩
  · by_cases c2 : 16 * q < 16 * f + (8 * (r + m) + (a + d) + 15) / 16 * 16
    · go_wp2_with fail
      refine (push_ok _ r a _ _ (by omega) (by omega) (by omega) (by omega) (by omega) (by omega) (by omega) (by omega) (by omega) (by omega) (by omega)).mono ?_
      rintro e w' ⟨rfl, rfl⟩
      go_wp2_with fail
      refine (push_full _ (r + m) (a + d) _ _ (by omega) (by omega) (by omega) (by omega) (by omega) (by omega) (by omega) (by omega) (by omega) (by omega) (by omega)).mono ?_
      rintro e w' ⟨rfl, rfl⟩
      go_wp2_with fail
      refine (slot_in _ _ _ (by omega) (by omega) (by omega)).mono ?_
      rintro e w' ⟨rfl, rfl⟩
      go_wp2_with fail
      refine (slot_in _ _ _ (by omega) (by omega) (by omega)).mono ?_
      rintro e w' ⟨rfl, rfl⟩
      go_wp2
      go_ret
      exact ⟨bl.ret1 (bl.bool_eq (by rw [beq_iff_eq]; omega)), Below.refl _ _⟩
    · go_wp2_with fail
      refine (push_ok _ r a _ _ (by omega) (by omega) (by omega) (by omega) (by omega) (by omega) (by omega) (by omega) (by omega) (by omega) (by omega)).mono ?_
      rintro e w' ⟨rfl, rfl⟩
      go_wp2_with fail
      refine (push_ok _ (r + m) (a + d) _ _ (by omega) (by omega) (by omega) (by omega) (by omega) (by omega) (by omega) (by omega) (by omega) (by omega) (by omega)).mono ?_
      rintro e w' ⟨rfl, rfl⟩
      go_wp2_with fail
      refine (slot_in _ _ _ (by omega) (by omega) (by omega)).mono ?_
      rintro e w' ⟨rfl, rfl⟩
      go_wp2_with fail
      refine (slot_in _ _ _ (by omega) (by omega) (by omega)).mono ?_
      rintro e w' ⟨rfl, rfl⟩
      go_wp2
      go_ret
      exact ⟨bl.ret1 (bl.bool_eq (by rw [beq_iff_eq]; omega)), Below.refl _ _⟩

set_option maxRecDepth 100000 in
set_option maxHeartbeats 800000 in
theorem apart_walk (a0 a1 a2 a3 a4 a5 a6 a7 : Int) (w0 : (Lit.int .i64 a0).wf = true) (w1 : (Lit.int .i64 a1).wf = true) (w2 : (Lit.int .i64 a2).wf = true) (w3 : (Lit.int .i64 a3).wf = true) (w4 : (Lit.int .i64 a4).wf = true) (w5 : (Lit.int .i64 a5).wf = true) (w6 : (Lit.int .i64 a6).wf = true) (w7 : (Lit.int .i64 a7).wf = true) (w : World) :
    Calls Try.prog 7 #[.int .i64 a0, .int .i64 a1, .int .i64 a2, .int .i64 a3, .int .i64 a4, .int .i64 a5, .int .i64 a6, .int .i64 a7] w fun e w' => e = .returned (.bool true) ∧ Below w.heap.size w w' := by
  have x0 := bl.wf_i64 w0
  have x1 := bl.wf_i64 w1
  have x2 := bl.wf_i64 w2
  have x3 := bl.wf_i64 w3
  have x4 := bl.wf_i64 w4
  have x5 := bl.wf_i64 w5
  have x6 := bl.wf_i64 w6
  have x7 := bl.wf_i64 w7
  clear w0 w1 w2 w3 w4 w5 w6 w7
  go_enter Try.func7, Try.ntmps7
  go_wp2_with fail
  refine (known_walk _).mono ?_
  rintro e wa ⟨rfl, hga⟩
  go_wp2_with fail
  refine (pick_any a0 _ _ (by omega) (by omega) (by omega) (by omega)).mono ?_
  rintro e w' ⟨t, ht1, ht2, rfl, rfl⟩
  go_wp2_with fail
  refine (top_ok _ _ (by omega) (by omega)).mono ?_
  rintro e w' ⟨rfl, rfl⟩
  go_wp2_with fail
  refine (pick_any a1 _ _ (by omega) (by omega) (by omega) (by omega)).mono ?_
  rintro e w' ⟨f, hf1, hf2, rfl, rfl⟩
  go_wp2_with fail
  refine (floor_ok _ _ (by omega) (by omega)).mono ?_
  rintro e w' ⟨rfl, rfl⟩
  go_wp2_with fail
  refine (pick_any a2 _ _ (by omega) (by omega) (by omega) (by omega)).mono ?_
  rintro e w' ⟨r, hr1, hr2, rfl, rfl⟩
  go_wp2_with fail
  refine (pick_any a4 _ _ (by omega) (by omega) (by omega) (by omega)).mono ?_
  rintro e w' ⟨s, hs1, hs2, rfl, rfl⟩
  go_wp2_with fail
  refine (pick_any a3 _ _ (by omega) (by omega) (by omega) (by omega)).mono ?_
  rintro e w' ⟨a, ha1, ha2, rfl, rfl⟩
  go_wp2_with fail
  refine (pick_any a5 _ _ (by omega) (by omega) (by omega) (by omega)).mono ?_
  rintro e w' ⟨b, hb1, hb2, rfl, rfl⟩
  by_cases c1 : (16 + t) / 16 * 16 < (16 + f + 15) / 16 * 16 + (8 * r + a + 15) / 16 * 16
  · go_wp2_with fail
    refine (push_full _ r a _ _ (by omega) (by omega) (by omega) (by omega) (by omega) (by omega) (by omega) (by omega) (by omega) (by omega) (by omega)).mono ?_
    rintro e w' ⟨rfl, rfl⟩
    go_wp2
    all_goals (go_ret; exact ⟨rfl, hga⟩)
  · go_wp2_with fail
    refine (push_ok _ r a _ _ (by omega) (by omega) (by omega) (by omega) (by omega) (by omega) (by omega) (by omega) (by omega) (by omega) (by omega)).mono ?_
    rintro e w' ⟨rfl, rfl⟩
    go_wp2_with fail
    refine (pop_ok _ r a _ (by omega) (by omega) (by omega) (by omega) (by omega) (by omega) (by omega)).mono ?_
    rintro e w' ⟨rfl, rfl⟩
    go_wp2_with fail
    refine (area_in _ r a _ (by omega) (by omega) (by omega) (by omega)).mono ?_
    rintro e w' ⟨rfl, rfl⟩
    go_wp2_with fail
    refine (pick_any a6 _ _ (by omega) (by omega) (by omega) (by omega)).mono ?_
    rintro e w' ⟨i, hi1, hi2, rfl, rfl⟩
    go_wp2_with fail
    refine (pick_any a7 _ _ (by omega) (by omega) (by omega) (by omega)).mono ?_
    rintro e w' ⟨j, hj1, hj2, rfl, rfl⟩
    clear x0 x1 x2 x3 x4 x5 x6 x7
    go_wp2_with fail
    refine (slot_in _ _ _ (by omega) (by omega) (by omega)).mono ?_
    rintro e w' ⟨rfl, rfl⟩
    go_wp2_with fail
    refine (slot_in _ _ _ (by omega) (by omega) (by omega)).mono ?_
    rintro e w' ⟨rfl, rfl⟩
    by_cases c3 : i < r
    · by_cases c4 : i < j
      · go_wp2_with fail
        refine (area_in _ r 0 _ (by omega) (by omega) (by omega) (by omega)).mono ?_
        rintro e w' ⟨rfl, rfl⟩
        by_cases c2 : ((16 + t) / 16 * 16 - (8 * r + a + 15) / 16 * 16) < (16 + f + 15) / 16 * 16 + (8 * s + b + 15) / 16 * 16
        · go_wp2_with fail
          refine (push_full _ s b _ _ (by omega) (by omega) (by omega) (by omega) (by omega) (by omega) (by omega) (by omega) (by omega) (by omega) (by omega)).mono ?_
          rintro e w' ⟨rfl, rfl⟩
          go_wp2
          all_goals (go_ret; exact ⟨rfl, hga⟩)
        · go_wp2_with fail
          refine (push_ok _ s b _ _ (by omega) (by omega) (by omega) (by omega) (by omega) (by omega) (by omega) (by omega) (by omega) (by omega) (by omega)).mono ?_
          rintro e w' ⟨rfl, rfl⟩
          go_wp2_with fail
          refine (area_in _ s b _ (by omega) (by omega) (by omega) (by omega)).mono ?_
          rintro e w' ⟨rfl, rfl⟩
          go_wp2
          all_goals (go_ret; exact ⟨bl.ret1 (bl.bool_eq (decide_eq_true (by omega))), hga⟩)
      · go_wp2_with fail
        refine (area_in _ r 0 _ (by omega) (by omega) (by omega) (by omega)).mono ?_
        rintro e w' ⟨rfl, rfl⟩
        by_cases c2 : ((16 + t) / 16 * 16 - (8 * r + a + 15) / 16 * 16) < (16 + f + 15) / 16 * 16 + (8 * s + b + 15) / 16 * 16
        · go_wp2_with fail
          refine (push_full _ s b _ _ (by omega) (by omega) (by omega) (by omega) (by omega) (by omega) (by omega) (by omega) (by omega) (by omega) (by omega)).mono ?_
          rintro e w' ⟨rfl, rfl⟩
          go_wp2
          all_goals (go_ret; exact ⟨rfl, hga⟩)
        · go_wp2_with fail
          refine (push_ok _ s b _ _ (by omega) (by omega) (by omega) (by omega) (by omega) (by omega) (by omega) (by omega) (by omega) (by omega) (by omega)).mono ?_
          rintro e w' ⟨rfl, rfl⟩
          go_wp2_with fail
          refine (area_in _ s b _ (by omega) (by omega) (by omega) (by omega)).mono ?_
          rintro e w' ⟨rfl, rfl⟩
          go_wp2
          all_goals (go_ret; exact ⟨bl.ret1 (bl.bool_eq (decide_eq_true (by omega))), hga⟩)
    · by_cases c4 : i < j
      · exfalso
        omega
      · by_cases c2 : ((16 + t) / 16 * 16 - (8 * r + a + 15) / 16 * 16) < (16 + f + 15) / 16 * 16 + (8 * s + b + 15) / 16 * 16
        · go_wp2_with fail
          refine (push_full _ s b _ _ (by omega) (by omega) (by omega) (by omega) (by omega) (by omega) (by omega) (by omega) (by omega) (by omega) (by omega)).mono ?_
          rintro e w' ⟨rfl, rfl⟩
          go_wp2
          all_goals (go_ret; exact ⟨rfl, hga⟩)
        · go_wp2_with fail
          refine (push_ok _ s b _ _ (by omega) (by omega) (by omega) (by omega) (by omega) (by omega) (by omega) (by omega) (by omega) (by omega) (by omega)).mono ?_
          rintro e w' ⟨rfl, rfl⟩
          go_wp2_with fail
          refine (area_in _ s b _ (by omega) (by omega) (by omega) (by omega)).mono ?_
          rintro e w' ⟨rfl, rfl⟩
          go_wp2
          all_goals (go_ret; exact ⟨bl.ret1 (bl.bool_eq (decide_eq_true (by omega))), hga⟩)
end Go.Proofs.Yteemlbkbfngoeaa
