/- The reference's Do, Zext, Sext and Half, and the program's Zext, Sext and Half, each by a contract. -/
import Derived.Test.YtimchannmigioaaWRef
namespace Go.Proofs.Ytimchannmigioaa
open Go.RowKit
set_option linter.unusedVariables false

theorem rother11 (x y : Int) (w : World) (x0 : 0 ≤ x) (x1 : x < 18446744073709551616) (y0 : 0 ≤ y) (y1 : y < 18446744073709551616) : Calls Try.prog 36 #[.int .i64 11, .int .u64 x, .int .u64 y] w fun e w' => e = .returned (.tuple #[.int .u64 (wd.doV 11 x y), .int .i64 0]) ∧ w = w' := by
  go_enter Try.func36, Try.ntmps36
  go_wp2
  go_ret2
  exact ⟨rfl, rfl⟩
theorem rother12 (x y : Int) (w : World) (x0 : 0 ≤ x) (x1 : x < 18446744073709551616) (y0 : 0 ≤ y) (y1 : y < 18446744073709551616) : Calls Try.prog 36 #[.int .i64 12, .int .u64 x, .int .u64 y] w fun e w' => e = .returned (.tuple #[.int .u64 (wd.doV 12 x y), .int .i64 0]) ∧ w = w' := by
  go_enter Try.func36, Try.ntmps36
  go_wp2
  go_ret2
  exact ⟨rfl, rfl⟩
theorem rother13 (x y : Int) (w : World) (x0 : 0 ≤ x) (x1 : x < 18446744073709551616) (y0 : 0 ≤ y) (y1 : y < 18446744073709551616) : Calls Try.prog 36 #[.int .i64 13, .int .u64 x, .int .u64 y] w fun e w' => e = .returned (.tuple #[.int .u64 (wd.doV 13 x y), .int .i64 0]) ∧ w = w' := by
  go_enter Try.func36, Try.ntmps36
  go_wp2
  go_ret2
  exact ⟨rfl, rfl⟩
theorem rother14 (x y : Int) (w : World) (x0 : 0 ≤ x) (x1 : x < 18446744073709551616) (y0 : 0 ≤ y) (y1 : y < 18446744073709551616) : Calls Try.prog 36 #[.int .i64 14, .int .u64 x, .int .u64 y] w fun e w' => e = .returned (.tuple #[.int .u64 (wd.doV 14 x y), .int .i64 0]) ∧ w = w' := by
  go_enter Try.func36, Try.ntmps36
  go_wp2_with fail
  refine (rshift14 x y _ x0 x1 y0 y1).mono ?_
  rintro e w' ⟨rfl, rfl⟩
  go_wp2
  go_ret2
  exact ⟨rfl, rfl⟩
theorem rother15 (x y : Int) (w : World) (x0 : 0 ≤ x) (x1 : x < 18446744073709551616) (y0 : 0 ≤ y) (y1 : y < 18446744073709551616) : Calls Try.prog 36 #[.int .i64 15, .int .u64 x, .int .u64 y] w fun e w' => e = .returned (.tuple #[.int .u64 (wd.doV 15 x y), .int .i64 0]) ∧ w = w' := by
  go_enter Try.func36, Try.ntmps36
  go_wp2_with fail
  refine (rshift15 x y _ x0 x1 y0 y1).mono ?_
  rintro e w' ⟨rfl, rfl⟩
  go_wp2
  go_ret2
  exact ⟨rfl, rfl⟩
theorem rother16 (x y : Int) (w : World) (x0 : 0 ≤ x) (x1 : x < 18446744073709551616) (y0 : 0 ≤ y) (y1 : y < 18446744073709551616) : Calls Try.prog 36 #[.int .i64 16, .int .u64 x, .int .u64 y] w fun e w' => e = .returned (.tuple #[.int .u64 (wd.doV 16 x y), .int .i64 0]) ∧ w = w' := by
  go_enter Try.func36, Try.ntmps36
  go_wp2_with fail
  refine (rshift16 x y _ x0 x1 y0 y1).mono ?_
  rintro e w' ⟨rfl, rfl⟩
  go_wp2
  go_ret2
  exact ⟨rfl, rfl⟩
theorem rother17 (x y : Int) (w : World) (x0 : 0 ≤ x) (x1 : x < 18446744073709551616) (y0 : 0 ≤ y) (y1 : y < 18446744073709551616) : Calls Try.prog 36 #[.int .i64 17, .int .u64 x, .int .u64 y] w fun e w' => e = .returned (.tuple #[.int .u64 (wd.doV 17 x y), .int .i64 0]) ∧ w = w' := by
  go_enter Try.func36, Try.ntmps36
  go_wp2_with fail
  refine (rbit_any _ _).mono ?_
  rintro e w' ⟨rfl, rfl⟩
  go_wp2
  go_ret2
  exact ⟨bl.ret2 (bl.int_eq (congrArg wd.bit (decide_eq_decide.2 (by rw [IntKind.wrap_u64, IntKind.wrap_u64]; unfold wrap64; omega)))) rfl, rfl⟩
theorem rother18 (x y : Int) (w : World) (x0 : 0 ≤ x) (x1 : x < 18446744073709551616) (y0 : 0 ≤ y) (y1 : y < 18446744073709551616) : Calls Try.prog 36 #[.int .i64 18, .int .u64 x, .int .u64 y] w fun e w' => e = .returned (.tuple #[.int .u64 (wd.doV 18 x y), .int .i64 0]) ∧ w = w' := by
  go_enter Try.func36, Try.ntmps36
  go_wp2_with fail
  refine (rbit_any _ _).mono ?_
  rintro e w' ⟨rfl, rfl⟩
  go_wp2
  go_ret2
  exact ⟨rfl, rfl⟩
theorem rother19 (x y : Int) (w : World) (x0 : 0 ≤ x) (x1 : x < 18446744073709551616) (y0 : 0 ≤ y) (y1 : y < 18446744073709551616) : Calls Try.prog 36 #[.int .i64 19, .int .u64 x, .int .u64 y] w fun e w' => e = .returned (.tuple #[.int .u64 (wd.doV 19 x y), .int .i64 0]) ∧ w = w' := by
  go_enter Try.func36, Try.ntmps36
  go_wp2_with fail
  refine (rbit_any _ _).mono ?_
  rintro e w' ⟨rfl, rfl⟩
  go_wp2
  go_ret2
  exact ⟨rfl, rfl⟩
theorem rother20 (x y : Int) (w : World) (x0 : 0 ≤ x) (x1 : x < 18446744073709551616) (y0 : 0 ≤ y) (y1 : y < 18446744073709551616) : Calls Try.prog 36 #[.int .i64 20, .int .u64 x, .int .u64 y] w fun e w' => e = .returned (.tuple #[.int .u64 (wd.doV 20 x y), .int .i64 0]) ∧ w = w' := by
  go_enter Try.func36, Try.ntmps36
  go_wp2_with fail
  refine (rbit_any _ _).mono ?_
  rintro e w' ⟨rfl, rfl⟩
  go_wp2
  go_ret2
  exact ⟨rfl, rfl⟩
theorem rdo1 (x y : Int) (w : World) (x0 : 0 ≤ x) (x1 : x < 18446744073709551616) (y0 : 0 ≤ y) (y1 : y < 18446744073709551616) : Calls Try.prog 25 #[.int .i64 1, .int .u64 x, .int .u64 y] w fun e w' => e = .returned (.tuple #[.int .u64 (wd.doV 1 x y), .int .i64 0]) ∧ w = w' := by
  go_enter Try.func25, Try.ntmps25
  go_wp2
  go_ret2
  exact ⟨bl.ret2 (bl.int_eq (IntKind.wrap_u64 _)) rfl, rfl⟩
theorem rdo2 (x y : Int) (w : World) (x0 : 0 ≤ x) (x1 : x < 18446744073709551616) (y0 : 0 ≤ y) (y1 : y < 18446744073709551616) : Calls Try.prog 25 #[.int .i64 2, .int .u64 x, .int .u64 y] w fun e w' => e = .returned (.tuple #[.int .u64 (wd.doV 2 x y), .int .i64 0]) ∧ w = w' := by
  go_enter Try.func25, Try.ntmps25
  go_wp2
  go_ret2
  exact ⟨bl.ret2 (bl.int_eq (IntKind.wrap_u64 _)) rfl, rfl⟩
theorem rdo3 (x y : Int) (w : World) (x0 : 0 ≤ x) (x1 : x < 18446744073709551616) (y0 : 0 ≤ y) (y1 : y < 18446744073709551616) : Calls Try.prog 25 #[.int .i64 3, .int .u64 x, .int .u64 y] w fun e w' => e = .returned (.tuple #[.int .u64 (wd.doV 3 x y), .int .i64 0]) ∧ w = w' := by
  go_enter Try.func25, Try.ntmps25
  go_wp2
  go_ret2
  exact ⟨bl.ret2 (bl.int_eq (IntKind.wrap_u64 _)) rfl, rfl⟩
theorem rdo4 (x y : Int) (w : World) (x0 : 0 ≤ x) (x1 : x < 18446744073709551616) (y0 : 0 ≤ y) (y1 : y < 18446744073709551616) : Calls Try.prog 25 #[.int .i64 4, .int .u64 x, .int .u64 y] w fun e w' => e = .returned (.tuple #[.int .u64 (wd.doV 4 x y), .int .i64 0]) ∧ w = w' := by
  go_enter Try.func25, Try.ntmps25
  go_wp2_with fail
  refine (rproduct4 x y _ x0 x1 y0 y1).mono ?_
  rintro e w' ⟨rfl, rfl⟩
  go_wp2
  go_ret2
  exact ⟨rfl, rfl⟩
theorem rdo5 (x y : Int) (w : World) (x0 : 0 ≤ x) (x1 : x < 18446744073709551616) (y0 : 0 ≤ y) (y1 : y < 18446744073709551616) : Calls Try.prog 25 #[.int .i64 5, .int .u64 x, .int .u64 y] w fun e w' => e = .returned (.tuple #[.int .u64 (wd.doV 5 x y), .int .i64 0]) ∧ w = w' := by
  go_enter Try.func25, Try.ntmps25
  go_wp2_with fail
  refine (rproduct5 x y _ x0 x1 y0 y1).mono ?_
  rintro e w' ⟨rfl, rfl⟩
  go_wp2
  go_ret2
  exact ⟨rfl, rfl⟩
theorem rdo6 (x y : Int) (w : World) (x0 : 0 ≤ x) (x1 : x < 18446744073709551616) (y0 : 0 ≤ y) (y1 : y < 18446744073709551616) : Calls Try.prog 25 #[.int .i64 6, .int .u64 x, .int .u64 y] w fun e w' => e = .returned (.tuple #[.int .u64 (wd.doV 6 x y), .int .i64 0]) ∧ w = w' := by
  go_enter Try.func25, Try.ntmps25
  go_wp2_with fail
  refine (rproduct6 x y _ x0 x1 y0 y1).mono ?_
  rintro e w' ⟨rfl, rfl⟩
  go_wp2
  go_ret2
  exact ⟨rfl, rfl⟩
theorem rdo7 (x y : Int) (w : World) (x0 : 0 ≤ x) (x1 : x < 18446744073709551616) (y0 : 0 ≤ y) (y1 : y < 18446744073709551616) : Calls Try.prog 25 #[.int .i64 7, .int .u64 x, .int .u64 y] w fun e w' => e = .returned (.tuple #[.int .u64 (wd.doV 7 x y), .int .i64 0]) ∧ w = w' := by
  go_enter Try.func25, Try.ntmps25
  go_wp2_with fail
  refine (rdivide7 x y _ x0 x1 y0 y1).mono ?_
  rintro e w' ⟨rfl, rfl⟩
  go_wp2
  go_ret2
  exact ⟨rfl, rfl⟩
theorem rdo9 (x y : Int) (w : World) (x0 : 0 ≤ x) (x1 : x < 18446744073709551616) (y0 : 0 ≤ y) (y1 : y < 18446744073709551616) : Calls Try.prog 25 #[.int .i64 9, .int .u64 x, .int .u64 y] w fun e w' => e = .returned (.tuple #[.int .u64 (wd.doV 9 x y), .int .i64 0]) ∧ w = w' := by
  go_enter Try.func25, Try.ntmps25
  go_wp2_with fail
  refine (rdivide9 x y _ x0 x1 y0 y1).mono ?_
  rintro e w' ⟨rfl, rfl⟩
  go_wp2
  go_ret2
  exact ⟨rfl, rfl⟩
theorem rdo8 (x y : Int) (w : World) (x0 : 0 ≤ x) (x1 : x < 18446744073709551616) (y0 : 0 ≤ y) (y1 : y < 18446744073709551616) : Calls Try.prog 25 #[.int .i64 8, .int .u64 x, .int .u64 y] w fun e w' => e = .returned (.tuple #[.int .u64 (wd.doV 8 x y), .int .i64 0]) ∧ w = w' := by
  by_cases hy : y = 0
  · subst hy
    go_enter Try.func25, Try.ntmps25
    go_wp2
    go_ret2
    exact ⟨rfl, rfl⟩
  · have hy0 : (y == 0) = false := by simpa using hy
    have HY := bl.hid hy
    go_enter Try.func25, Try.ntmps25
    go_wp2
    go_ret2
    exact ⟨bl.ret2 (bl.int_eq (show _ = wd.divU x y by rw [wd.divU, if_neg HY.out])) rfl, rfl⟩
theorem rdo10 (x y : Int) (w : World) (x0 : 0 ≤ x) (x1 : x < 18446744073709551616) (y0 : 0 ≤ y) (y1 : y < 18446744073709551616) : Calls Try.prog 25 #[.int .i64 10, .int .u64 x, .int .u64 y] w fun e w' => e = .returned (.tuple #[.int .u64 (wd.doV 10 x y), .int .i64 0]) ∧ w = w' := by
  by_cases hy : y = 0
  · subst hy
    go_enter Try.func25, Try.ntmps25
    go_wp2
    go_ret2
    exact ⟨rfl, rfl⟩
  · have hy0 : (y == 0) = false := by simpa using hy
    have HY := bl.hid hy
    go_enter Try.func25, Try.ntmps25
    go_wp2
    go_ret2
    exact ⟨bl.ret2 (bl.int_eq (show _ = wd.remU x y by rw [wd.remU, if_neg HY.out])) rfl, rfl⟩
theorem rdo11 (x y : Int) (w : World) (x0 : 0 ≤ x) (x1 : x < 18446744073709551616) (y0 : 0 ≤ y) (y1 : y < 18446744073709551616) : Calls Try.prog 25 #[.int .i64 11, .int .u64 x, .int .u64 y] w fun e w' => e = .returned (.tuple #[.int .u64 (wd.doV 11 x y), .int .i64 0]) ∧ w = w' := by
  go_enter Try.func25, Try.ntmps25
  go_wp2_with fail
  refine (rother11 x y _ x0 x1 y0 y1).mono ?_
  rintro e w' ⟨rfl, rfl⟩
  go_wp2
  go_ret2
  exact ⟨rfl, rfl⟩
theorem rdo12 (x y : Int) (w : World) (x0 : 0 ≤ x) (x1 : x < 18446744073709551616) (y0 : 0 ≤ y) (y1 : y < 18446744073709551616) : Calls Try.prog 25 #[.int .i64 12, .int .u64 x, .int .u64 y] w fun e w' => e = .returned (.tuple #[.int .u64 (wd.doV 12 x y), .int .i64 0]) ∧ w = w' := by
  go_enter Try.func25, Try.ntmps25
  go_wp2_with fail
  refine (rother12 x y _ x0 x1 y0 y1).mono ?_
  rintro e w' ⟨rfl, rfl⟩
  go_wp2
  go_ret2
  exact ⟨rfl, rfl⟩
theorem rdo13 (x y : Int) (w : World) (x0 : 0 ≤ x) (x1 : x < 18446744073709551616) (y0 : 0 ≤ y) (y1 : y < 18446744073709551616) : Calls Try.prog 25 #[.int .i64 13, .int .u64 x, .int .u64 y] w fun e w' => e = .returned (.tuple #[.int .u64 (wd.doV 13 x y), .int .i64 0]) ∧ w = w' := by
  go_enter Try.func25, Try.ntmps25
  go_wp2_with fail
  refine (rother13 x y _ x0 x1 y0 y1).mono ?_
  rintro e w' ⟨rfl, rfl⟩
  go_wp2
  go_ret2
  exact ⟨rfl, rfl⟩
theorem rdo14 (x y : Int) (w : World) (x0 : 0 ≤ x) (x1 : x < 18446744073709551616) (y0 : 0 ≤ y) (y1 : y < 18446744073709551616) : Calls Try.prog 25 #[.int .i64 14, .int .u64 x, .int .u64 y] w fun e w' => e = .returned (.tuple #[.int .u64 (wd.doV 14 x y), .int .i64 0]) ∧ w = w' := by
  go_enter Try.func25, Try.ntmps25
  go_wp2_with fail
  refine (rother14 x y _ x0 x1 y0 y1).mono ?_
  rintro e w' ⟨rfl, rfl⟩
  go_wp2
  go_ret2
  exact ⟨rfl, rfl⟩
theorem rdo15 (x y : Int) (w : World) (x0 : 0 ≤ x) (x1 : x < 18446744073709551616) (y0 : 0 ≤ y) (y1 : y < 18446744073709551616) : Calls Try.prog 25 #[.int .i64 15, .int .u64 x, .int .u64 y] w fun e w' => e = .returned (.tuple #[.int .u64 (wd.doV 15 x y), .int .i64 0]) ∧ w = w' := by
  go_enter Try.func25, Try.ntmps25
  go_wp2_with fail
  refine (rother15 x y _ x0 x1 y0 y1).mono ?_
  rintro e w' ⟨rfl, rfl⟩
  go_wp2
  go_ret2
  exact ⟨rfl, rfl⟩
theorem rdo16 (x y : Int) (w : World) (x0 : 0 ≤ x) (x1 : x < 18446744073709551616) (y0 : 0 ≤ y) (y1 : y < 18446744073709551616) : Calls Try.prog 25 #[.int .i64 16, .int .u64 x, .int .u64 y] w fun e w' => e = .returned (.tuple #[.int .u64 (wd.doV 16 x y), .int .i64 0]) ∧ w = w' := by
  go_enter Try.func25, Try.ntmps25
  go_wp2_with fail
  refine (rother16 x y _ x0 x1 y0 y1).mono ?_
  rintro e w' ⟨rfl, rfl⟩
  go_wp2
  go_ret2
  exact ⟨rfl, rfl⟩
theorem rdo17 (x y : Int) (w : World) (x0 : 0 ≤ x) (x1 : x < 18446744073709551616) (y0 : 0 ≤ y) (y1 : y < 18446744073709551616) : Calls Try.prog 25 #[.int .i64 17, .int .u64 x, .int .u64 y] w fun e w' => e = .returned (.tuple #[.int .u64 (wd.doV 17 x y), .int .i64 0]) ∧ w = w' := by
  go_enter Try.func25, Try.ntmps25
  go_wp2_with fail
  refine (rother17 x y _ x0 x1 y0 y1).mono ?_
  rintro e w' ⟨rfl, rfl⟩
  go_wp2
  go_ret2
  exact ⟨rfl, rfl⟩
theorem rdo18 (x y : Int) (w : World) (x0 : 0 ≤ x) (x1 : x < 18446744073709551616) (y0 : 0 ≤ y) (y1 : y < 18446744073709551616) : Calls Try.prog 25 #[.int .i64 18, .int .u64 x, .int .u64 y] w fun e w' => e = .returned (.tuple #[.int .u64 (wd.doV 18 x y), .int .i64 0]) ∧ w = w' := by
  go_enter Try.func25, Try.ntmps25
  go_wp2_with fail
  refine (rother18 x y _ x0 x1 y0 y1).mono ?_
  rintro e w' ⟨rfl, rfl⟩
  go_wp2
  go_ret2
  exact ⟨rfl, rfl⟩
theorem rdo19 (x y : Int) (w : World) (x0 : 0 ≤ x) (x1 : x < 18446744073709551616) (y0 : 0 ≤ y) (y1 : y < 18446744073709551616) : Calls Try.prog 25 #[.int .i64 19, .int .u64 x, .int .u64 y] w fun e w' => e = .returned (.tuple #[.int .u64 (wd.doV 19 x y), .int .i64 0]) ∧ w = w' := by
  go_enter Try.func25, Try.ntmps25
  go_wp2_with fail
  refine (rother19 x y _ x0 x1 y0 y1).mono ?_
  rintro e w' ⟨rfl, rfl⟩
  go_wp2
  go_ret2
  exact ⟨rfl, rfl⟩
theorem rdo20 (x y : Int) (w : World) (x0 : 0 ≤ x) (x1 : x < 18446744073709551616) (y0 : 0 ≤ y) (y1 : y < 18446744073709551616) : Calls Try.prog 25 #[.int .i64 20, .int .u64 x, .int .u64 y] w fun e w' => e = .returned (.tuple #[.int .u64 (wd.doV 20 x y), .int .i64 0]) ∧ w = w' := by
  go_enter Try.func25, Try.ntmps25
  go_wp2_with fail
  refine (rother20 x y _ x0 x1 y0 y1).mono ?_
  rintro e w' ⟨rfl, rfl⟩
  go_wp2
  go_ret2
  exact ⟨rfl, rfl⟩
theorem rdo_no (f x y : Int) (w : World) (h : f < 1 ∨ 20 < f) : Calls Try.prog 25 #[.int .i64 f, .int .u64 x, .int .u64 y] w fun e w' => e = .returned (.tuple #[.int .u64 0, .int .i64 2]) ∧ w = w' := by
  have n1 : (f == 1) = false := by simp; omega
  have n2 : (f == 2) = false := by simp; omega
  have n3 : (f == 3) = false := by simp; omega
  have n4 : (f == 4) = false := by simp; omega
  have n5 : (f == 5) = false := by simp; omega
  have n6 : (f == 6) = false := by simp; omega
  have n7 : (f == 7) = false := by simp; omega
  have n8 : (f == 8) = false := by simp; omega
  have n9 : (f == 9) = false := by simp; omega
  have n10 : (f == 10) = false := by simp; omega
  have n11 : (f == 11) = false := by simp; omega
  have n12 : (f == 12) = false := by simp; omega
  have n13 : (f == 13) = false := by simp; omega
  have n14 : (f == 14) = false := by simp; omega
  have n15 : (f == 15) = false := by simp; omega
  have n16 : (f == 16) = false := by simp; omega
  have n17 : (f == 17) = false := by simp; omega
  have n18 : (f == 18) = false := by simp; omega
  have n19 : (f == 19) = false := by simp; omega
  have n20 : (f == 20) = false := by simp; omega
  clear h
  go_enter Try.func25, Try.ntmps25
  go_wp2
  go_ret2
  exact ⟨rfl, rfl⟩
theorem rdo_any (f x y : Int) (w : World) (x0 : 0 ≤ x) (x1 : x < 18446744073709551616) (y0 : 0 ≤ y) (y1 : y < 18446744073709551616) :
    Calls Try.prog 25 #[.int .i64 f, .int .u64 x, .int .u64 y] w fun e w' => e = .returned (.tuple #[.int .u64 (wd.doV f x y), .int .i64 (wd.doE f)]) ∧ w = w' := by
  by_cases h : 1 ≤ f ∧ f ≤ 20
  · rw [wd.doE_of h]
    have : f = 1 ∨ f = 2 ∨ f = 3 ∨ f = 4 ∨ f = 5 ∨ f = 6 ∨ f = 7 ∨ f = 8 ∨ f = 9 ∨ f = 10 ∨ f = 11 ∨ f = 12 ∨ f = 13 ∨ f = 14 ∨ f = 15 ∨ f = 16 ∨ f = 17 ∨ f = 18 ∨ f = 19 ∨ f = 20 := by omega
    rcases this with rfl | rfl | rfl | rfl | rfl | rfl | rfl | rfl | rfl | rfl | rfl | rfl | rfl | rfl | rfl | rfl | rfl | rfl | rfl | rfl
    · exact rdo1 x y w x0 x1 y0 y1
    · exact rdo2 x y w x0 x1 y0 y1
    · exact rdo3 x y w x0 x1 y0 y1
    · exact rdo4 x y w x0 x1 y0 y1
    · exact rdo5 x y w x0 x1 y0 y1
    · exact rdo6 x y w x0 x1 y0 y1
    · exact rdo7 x y w x0 x1 y0 y1
    · exact rdo8 x y w x0 x1 y0 y1
    · exact rdo9 x y w x0 x1 y0 y1
    · exact rdo10 x y w x0 x1 y0 y1
    · exact rdo11 x y w x0 x1 y0 y1
    · exact rdo12 x y w x0 x1 y0 y1
    · exact rdo13 x y w x0 x1 y0 y1
    · exact rdo14 x y w x0 x1 y0 y1
    · exact rdo15 x y w x0 x1 y0 y1
    · exact rdo16 x y w x0 x1 y0 y1
    · exact rdo17 x y w x0 x1 y0 y1
    · exact rdo18 x y w x0 x1 y0 y1
    · exact rdo19 x y w x0 x1 y0 y1
    · exact rdo20 x y w x0 x1 y0 y1
  · rw [wd.doE_not h, wd.doV_not h]
    exact rdo_no f x y w (by omega)
theorem zext1 (x : Int) (w : World) (x0 : 0 ≤ x) (x1 : x < 18446744073709551616) : Calls Try.prog 19 #[.int .u64 x, .int .i64 1] w fun e w' => e = .returned (.int .u64 (wd.zx x 1)) ∧ w = w' := by
  go_enter Try.func19, Try.ntmps19
  go_wp2
  go_ret
  exact ⟨bl.ret1 (bl.int_eq (by (try simp only [IntKind.wrap_u64]); simp [wd.zx]; try omega)), rfl⟩
theorem zext2 (x : Int) (w : World) (x0 : 0 ≤ x) (x1 : x < 18446744073709551616) : Calls Try.prog 19 #[.int .u64 x, .int .i64 2] w fun e w' => e = .returned (.int .u64 (wd.zx x 2)) ∧ w = w' := by
  go_enter Try.func19, Try.ntmps19
  go_wp2
  go_ret
  exact ⟨bl.ret1 (bl.int_eq (by (try simp only [IntKind.wrap_u64]); simp [wd.zx]; try omega)), rfl⟩
theorem zext4 (x : Int) (w : World) (x0 : 0 ≤ x) (x1 : x < 18446744073709551616) : Calls Try.prog 19 #[.int .u64 x, .int .i64 4] w fun e w' => e = .returned (.int .u64 (wd.zx x 4)) ∧ w = w' := by
  go_enter Try.func19, Try.ntmps19
  go_wp2
  go_ret
  exact ⟨bl.ret1 (bl.int_eq (by (try simp only [IntKind.wrap_u64]); simp [wd.zx]; try omega)), rfl⟩
theorem zext8 (x : Int) (w : World) (x0 : 0 ≤ x) (x1 : x < 18446744073709551616) : Calls Try.prog 19 #[.int .u64 x, .int .i64 8] w fun e w' => e = .returned (.int .u64 (wd.zx x 8)) ∧ w = w' := by
  go_enter Try.func19, Try.ntmps19
  go_wp2
  go_ret
  exact ⟨bl.ret1 (bl.int_eq (by (try simp only [IntKind.wrap_u64]); simp [wd.zx]; try omega)), rfl⟩
theorem zext_no (x n : Int) (w : World) (h : ¬ (n = 1 ∨ n = 2 ∨ n = 4 ∨ n = 8)) : Calls Try.prog 19 #[.int .u64 x, .int .i64 n] w fun e w' => e = .returned (.int .u64 0) ∧ w = w' := by
  have n1 : (n == 1) = false := by simp; omega
  have n2 : (n == 2) = false := by simp; omega
  have n4 : (n == 4) = false := by simp; omega
  have n8 : (n == 8) = false := by simp; omega
  clear h
  go_enter Try.func19, Try.ntmps19
  go_wp2
  go_ret
  exact ⟨rfl, rfl⟩
theorem zext_any (x n : Int) (w : World) (x0 : 0 ≤ x) (x1 : x < 18446744073709551616) : Calls Try.prog 19 #[.int .u64 x, .int .i64 n] w fun e w' => e = .returned (.int .u64 (wd.zx x n)) ∧ w = w' := by
  by_cases h : n = 1 ∨ n = 2 ∨ n = 4 ∨ n = 8
  · rcases h with rfl | rfl | rfl | rfl
    · exact zext1 x w x0 x1
    · exact zext2 x w x0 x1
    · exact zext4 x w x0 x1
    · exact zext8 x w x0 x1
  · rw [show wd.zx x n = 0 by unfold wd.zx; repeat (rw [if_neg (by omega)])]
    exact zext_no x n w h
theorem rzext1 (x : Int) (w : World) (x0 : 0 ≤ x) (x1 : x < 18446744073709551616) : Calls Try.prog 20 #[.int .u64 x, .int .i64 1] w fun e w' => e = .returned (.int .u64 (wd.zx x 1)) ∧ w = w' := by
  go_enter Try.func20, Try.ntmps20
  go_wp2
  go_ret
  exact ⟨bl.ret1 (bl.int_eq (by (try simp only [IntKind.wrap_u64]); simp [wd.zx]; try omega)), rfl⟩
theorem rzext2 (x : Int) (w : World) (x0 : 0 ≤ x) (x1 : x < 18446744073709551616) : Calls Try.prog 20 #[.int .u64 x, .int .i64 2] w fun e w' => e = .returned (.int .u64 (wd.zx x 2)) ∧ w = w' := by
  go_enter Try.func20, Try.ntmps20
  go_wp2
  go_ret
  exact ⟨bl.ret1 (bl.int_eq (by (try simp only [IntKind.wrap_u64]); simp [wd.zx]; try omega)), rfl⟩
theorem rzext4 (x : Int) (w : World) (x0 : 0 ≤ x) (x1 : x < 18446744073709551616) : Calls Try.prog 20 #[.int .u64 x, .int .i64 4] w fun e w' => e = .returned (.int .u64 (wd.zx x 4)) ∧ w = w' := by
  go_enter Try.func20, Try.ntmps20
  go_wp2
  go_ret
  exact ⟨bl.ret1 (bl.int_eq (by (try simp only [IntKind.wrap_u64]); simp [wd.zx]; try omega)), rfl⟩
theorem rzext8 (x : Int) (w : World) (x0 : 0 ≤ x) (x1 : x < 18446744073709551616) : Calls Try.prog 20 #[.int .u64 x, .int .i64 8] w fun e w' => e = .returned (.int .u64 (wd.zx x 8)) ∧ w = w' := by
  go_enter Try.func20, Try.ntmps20
  go_wp2
  go_ret
  exact ⟨bl.ret1 (bl.int_eq (by (try simp only [IntKind.wrap_u64]); simp [wd.zx]; try omega)), rfl⟩
theorem rzext_no (x n : Int) (w : World) (h : ¬ (n = 1 ∨ n = 2 ∨ n = 4 ∨ n = 8)) : Calls Try.prog 20 #[.int .u64 x, .int .i64 n] w fun e w' => e = .returned (.int .u64 0) ∧ w = w' := by
  have n1 : (n == 1) = false := by simp; omega
  have n2 : (n == 2) = false := by simp; omega
  have n4 : (n == 4) = false := by simp; omega
  have n8 : (n == 8) = false := by simp; omega
  clear h
  go_enter Try.func20, Try.ntmps20
  go_wp2
  go_ret
  exact ⟨rfl, rfl⟩
theorem rzext_any (x n : Int) (w : World) (x0 : 0 ≤ x) (x1 : x < 18446744073709551616) : Calls Try.prog 20 #[.int .u64 x, .int .i64 n] w fun e w' => e = .returned (.int .u64 (wd.zx x n)) ∧ w = w' := by
  by_cases h : n = 1 ∨ n = 2 ∨ n = 4 ∨ n = 8
  · rcases h with rfl | rfl | rfl | rfl
    · exact rzext1 x w x0 x1
    · exact rzext2 x w x0 x1
    · exact rzext4 x w x0 x1
    · exact rzext8 x w x0 x1
  · rw [show wd.zx x n = 0 by unfold wd.zx; repeat (rw [if_neg (by omega)])]
    exact rzext_no x n w h
end Go.Proofs.Ytimchannmigioaa
