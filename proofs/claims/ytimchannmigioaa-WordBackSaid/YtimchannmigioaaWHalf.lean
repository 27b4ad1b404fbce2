/- Sext and Half, the program's and the reference's, each by a contract. -/
import Derived.Test.YtimchannmigioaaWRefDo
namespace Go.Proofs.Ytimchannmigioaa
open Go.RowKit
set_option linter.unusedVariables false

theorem sx_1 (x : Int) : wd.sx x 1 = if 128 ≤ x % 256 then x % 256 + 18446744073709551360 else x % 256 := rfl
theorem sx_2 (x : Int) : wd.sx x 2 = if 32768 ≤ x % 65536 then x % 65536 + 18446744073709486080 else x % 65536 := rfl
theorem sx_4 (x : Int) : wd.sx x 4 = if 2147483648 ≤ x % 4294967296 then x % 4294967296 + 18446744069414584320 else x % 4294967296 := rfl
theorem sx_8 (x : Int) : wd.sx x 8 = x := rfl
theorem zx_4 (x : Int) : wd.zx x 4 = x % 4294967296 := rfl
theorem sx_zx (x : Int) : wd.sx (wd.zx x 4) 4 = wd.sx x 4 := by simp only [sx_4, zx_4]; (repeat' split) <;> omega
theorem sx4_mod (x : Int) : wd.sx x 4 % 32 = wd.zx x 4 % 32 := by simp only [sx_4, zx_4]; (repeat' split) <;> omega
theorem zx4_bd (x : Int) : 0 ≤ wd.zx x 4 ∧ wd.zx x 4 < 18446744073709551616 := by simp only [zx_4]; omega
theorem sx4_bd (x : Int) : 0 ≤ wd.sx x 4 ∧ wd.sx x 4 < 18446744073709551616 := by simp only [sx_4]; (repeat' split) <;> omega
theorem zx_bd (x n : Int) (x0 : 0 ≤ x) (x1 : x < 18446744073709551616) : 0 ≤ wd.zx x n ∧ wd.zx x n < 18446744073709551616 := by unfold wd.zx; (repeat' split) <;> omega
theorem sx_bd (x n : Int) (x0 : 0 ≤ x) (x1 : x < 18446744073709551616) : 0 ≤ wd.sx x n ∧ wd.sx x n < 18446744073709551616 := by unfold wd.sx; (repeat' split) <;> omega
theorem bit_bd (b : Bool) : 0 ≤ wd.bit b ∧ wd.bit b < 18446744073709551616 := by cases b <;> decide
theorem em_bd (x : Int) : 0 ≤ x % 18446744073709551616 ∧ x % 18446744073709551616 < 18446744073709551616 := by omega
theorem doV_bd (f x y : Int) (x0 : 0 ≤ x) (x1 : x < 18446744073709551616) (y0 : 0 ≤ y) (y1 : y < 18446744073709551616) : 0 ≤ wd.doV f x y ∧ wd.doV f x y < 18446744073709551616 := by
  unfold wd.doV
  by_cases h : f = 1
  · rw [if_pos h]; exact em_bd _
  rw [if_neg h]; clear h
  by_cases h : f = 2
  · rw [if_pos h]; exact em_bd _
  rw [if_neg h]; clear h
  by_cases h : f = 3
  · rw [if_pos h]; exact em_bd _
  rw [if_neg h]; clear h
  by_cases h : f = 4
  · rw [if_pos h]; exact em_bd _
  rw [if_neg h]; clear h
  by_cases h : f = 5
  · rw [if_pos h]; exact em_bd _
  rw [if_neg h]; clear h
  by_cases h : f = 6
  · rw [if_pos h]; exact em_bd _
  rw [if_neg h]; clear h
  by_cases h : f = 7
  · rw [if_pos h]; unfold wd.divS; split
    · omega
    · exact em_bd _
  rw [if_neg h]; clear h
  by_cases h : f = 8
  · rw [if_pos h]; unfold wd.divU; split
    · omega
    · exact ⟨Int.ediv_nonneg x0 y0, Int.lt_of_le_of_lt (Int.ediv_le_self _ x0) x1⟩
  rw [if_neg h]; clear h
  by_cases h : f = 9
  · rw [if_pos h]; unfold wd.remS; split
    · omega
    · exact em_bd _
  rw [if_neg h]; clear h
  by_cases h : f = 10
  · rw [if_pos h]; unfold wd.remU; split
    · omega
    · exact ⟨Int.emod_nonneg _ (by omega), Int.lt_trans (Int.emod_lt_of_pos _ (by omega)) y1⟩
  rw [if_neg h]; clear h
  by_cases h : f = 11
  · rw [if_pos h, u64_and x y x0 x1 y0 y1]
    have : x.toNat &&& y.toNat < 2 ^ 64 := Nat.and_lt_two_pow _ (by omega)
    omega
  rw [if_neg h]; clear h
  by_cases h : f = 12
  · rw [if_pos h, u64_or x y x0 x1 y0 y1]
    have : x.toNat ||| y.toNat < 2 ^ 64 := Nat.or_lt_two_pow (by omega) (by omega)
    omega
  rw [if_neg h]; clear h
  by_cases h : f = 13
  · rw [if_pos h, u64_xor x y x0 x1 y0 y1]
    have : x.toNat ^^^ y.toNat < 2 ^ 64 := Nat.xor_lt_two_pow (by omega) (by omega)
    omega
  rw [if_neg h]; clear h
  by_cases h : f = 14
  · rw [if_pos h]; exact em_bd _
  rw [if_neg h]; clear h
  by_cases h : f = 15
  · rw [if_pos h]; exact shr_bd x _ x0 x1
  rw [if_neg h]; clear h
  by_cases h : f = 16
  · rw [if_pos h]; exact em_bd _
  rw [if_neg h]; clear h
  by_cases h : f = 17
  · rw [if_pos h]; exact bit_bd _
  rw [if_neg h]; clear h
  by_cases h : f = 18
  · rw [if_pos h]; exact bit_bd _
  rw [if_neg h]; clear h
  by_cases h : f = 19
  · rw [if_pos h]; exact bit_bd _
  rw [if_neg h]; clear h
  by_cases h : f = 20
  · rw [if_pos h]; exact bit_bd _
  rw [if_neg h]; clear h
  omega

theorem sext1 (x : Int) (w : World) (x0 : 0 ≤ x) (x1 : x < 18446744073709551616) : Calls Try.prog 21 #[.int .u64 x, .int .i64 1] w fun e w' => e = .returned (.int .u64 (wd.sx x 1)) ∧ w = w' := by
  go_enter Try.func21, Try.ntmps21
  go_wp2
  all_goals (go_ret; exact ⟨bl.ret1 (bl.int_eq (by (try simp only [IntKind.wrap_u64]); (try simp only [wrap64]); rw [sx_1]; try ((repeat' split) <;> omega))), rfl⟩)
theorem sext2 (x : Int) (w : World) (x0 : 0 ≤ x) (x1 : x < 18446744073709551616) : Calls Try.prog 21 #[.int .u64 x, .int .i64 2] w fun e w' => e = .returned (.int .u64 (wd.sx x 2)) ∧ w = w' := by
  go_enter Try.func21, Try.ntmps21
  go_wp2
  all_goals (go_ret; exact ⟨bl.ret1 (bl.int_eq (by (try simp only [IntKind.wrap_u64]); (try simp only [wrap64]); rw [sx_2]; try ((repeat' split) <;> omega))), rfl⟩)
theorem sext4 (x : Int) (w : World) (x0 : 0 ≤ x) (x1 : x < 18446744073709551616) : Calls Try.prog 21 #[.int .u64 x, .int .i64 4] w fun e w' => e = .returned (.int .u64 (wd.sx x 4)) ∧ w = w' := by
  go_enter Try.func21, Try.ntmps21
  go_wp2
  all_goals (go_ret; exact ⟨bl.ret1 (bl.int_eq (by (try simp only [IntKind.wrap_u64]); (try simp only [wrap64]); rw [sx_4]; try ((repeat' split) <;> omega))), rfl⟩)
theorem sext8 (x : Int) (w : World) (x0 : 0 ≤ x) (x1 : x < 18446744073709551616) : Calls Try.prog 21 #[.int .u64 x, .int .i64 8] w fun e w' => e = .returned (.int .u64 (wd.sx x 8)) ∧ w = w' := by
  go_enter Try.func21, Try.ntmps21
  go_wp2
  all_goals (go_ret; exact ⟨bl.ret1 (bl.int_eq (by (try simp only [IntKind.wrap_u64]); (try simp only [wrap64]); rw [sx_8]; try ((repeat' split) <;> omega))), rfl⟩)
theorem sext_no (x n : Int) (w : World) (h : ¬ (n = 1 ∨ n = 2 ∨ n = 4 ∨ n = 8)) : Calls Try.prog 21 #[.int .u64 x, .int .i64 n] w fun e w' => e = .returned (.int .u64 0) ∧ w = w' := by
  have n1 : (n == 1) = false := by simp; omega
  have n2 : (n == 2) = false := by simp; omega
  have n4 : (n == 4) = false := by simp; omega
  have n8 : (n == 8) = false := by simp; omega
  clear h
  go_enter Try.func21, Try.ntmps21
  go_wp2
  go_ret
  exact ⟨rfl, rfl⟩
theorem sext_any (x n : Int) (w : World) (x0 : 0 ≤ x) (x1 : x < 18446744073709551616) : Calls Try.prog 21 #[.int .u64 x, .int .i64 n] w fun e w' => e = .returned (.int .u64 (wd.sx x n)) ∧ w = w' := by
  by_cases h : n = 1 ∨ n = 2 ∨ n = 4 ∨ n = 8
  · rcases h with rfl | rfl | rfl | rfl
    · exact sext1 x w x0 x1
    · exact sext2 x w x0 x1
    · exact sext4 x w x0 x1
    · exact sext8 x w x0 x1
  · rw [show wd.sx x n = 0 by unfold wd.sx; repeat (rw [if_neg (by omega)])]
    exact sext_no x n w h
theorem rsext1 (x : Int) (w : World) (x0 : 0 ≤ x) (x1 : x < 18446744073709551616) : Calls Try.prog 22 #[.int .u64 x, .int .i64 1] w fun e w' => e = .returned (.int .u64 (wd.sx x 1)) ∧ w = w' := by
  go_enter Try.func22, Try.ntmps22
  go_wp2
  all_goals (go_ret; exact ⟨bl.ret1 (bl.int_eq (by (try simp only [IntKind.wrap_u64]); (try simp only [wrap64]); rw [sx_1]; try ((repeat' split) <;> omega))), rfl⟩)
theorem rsext2 (x : Int) (w : World) (x0 : 0 ≤ x) (x1 : x < 18446744073709551616) : Calls Try.prog 22 #[.int .u64 x, .int .i64 2] w fun e w' => e = .returned (.int .u64 (wd.sx x 2)) ∧ w = w' := by
  go_enter Try.func22, Try.ntmps22
  go_wp2
  all_goals (go_ret; exact ⟨bl.ret1 (bl.int_eq (by (try simp only [IntKind.wrap_u64]); (try simp only [wrap64]); rw [sx_2]; try ((repeat' split) <;> omega))), rfl⟩)
theorem rsext4 (x : Int) (w : World) (x0 : 0 ≤ x) (x1 : x < 18446744073709551616) : Calls Try.prog 22 #[.int .u64 x, .int .i64 4] w fun e w' => e = .returned (.int .u64 (wd.sx x 4)) ∧ w = w' := by
  go_enter Try.func22, Try.ntmps22
  go_wp2
  all_goals (go_ret; exact ⟨bl.ret1 (bl.int_eq (by (try simp only [IntKind.wrap_u64]); (try simp only [wrap64]); rw [sx_4]; try ((repeat' split) <;> omega))), rfl⟩)
theorem rsext8 (x : Int) (w : World) (x0 : 0 ≤ x) (x1 : x < 18446744073709551616) : Calls Try.prog 22 #[.int .u64 x, .int .i64 8] w fun e w' => e = .returned (.int .u64 (wd.sx x 8)) ∧ w = w' := by
  go_enter Try.func22, Try.ntmps22
  go_wp2
  all_goals (go_ret; exact ⟨bl.ret1 (bl.int_eq (by (try simp only [IntKind.wrap_u64]); (try simp only [wrap64]); rw [sx_8]; try ((repeat' split) <;> omega))), rfl⟩)
theorem rsext_no (x n : Int) (w : World) (h : ¬ (n = 1 ∨ n = 2 ∨ n = 4 ∨ n = 8)) : Calls Try.prog 22 #[.int .u64 x, .int .i64 n] w fun e w' => e = .returned (.int .u64 0) ∧ w = w' := by
  have n1 : (n == 1) = false := by simp; omega
  have n2 : (n == 2) = false := by simp; omega
  have n4 : (n == 4) = false := by simp; omega
  have n8 : (n == 8) = false := by simp; omega
  clear h
  go_enter Try.func22, Try.ntmps22
  go_wp2
  go_ret
  exact ⟨rfl, rfl⟩
theorem rsext_any (x n : Int) (w : World) (x0 : 0 ≤ x) (x1 : x < 18446744073709551616) : Calls Try.prog 22 #[.int .u64 x, .int .i64 n] w fun e w' => e = .returned (.int .u64 (wd.sx x n)) ∧ w = w' := by
  by_cases h : n = 1 ∨ n = 2 ∨ n = 4 ∨ n = 8
  · rcases h with rfl | rfl | rfl | rfl
    · exact rsext1 x w x0 x1
    · exact rsext2 x w x0 x1
    · exact rsext4 x w x0 x1
    · exact rsext8 x w x0 x1
  · rw [show wd.sx x n = 0 by unfold wd.sx; repeat (rw [if_neg (by omega)])]
    exact rsext_no x n w h
theorem halfV1 (x y : Int) : wd.halfV 1 x y = wd.sx (wd.doV 1 (wd.zx x 4) (wd.zx y 4)) 4 := by simp [wd.halfV, wd.halfOk, wd.halfX, wd.halfY]
theorem half1 (x y : Int) (w : World) (x0 : 0 ≤ x) (x1 : x < 18446744073709551616) (y0 : 0 ≤ y) (y1 : y < 18446744073709551616) : Calls Try.prog 26 #[.int .i64 1, .int .u64 x, .int .u64 y] w fun e w' => e = .returned (.tuple #[.int .u64 (wd.halfV 1 x y), .int .i64 0]) ∧ Below w.heap.size w w' := by
  rw [halfV1]
  have bx := zx4_bd x
  have bY := zx4_bd y
  have sX := sx4_bd x
  have sY := sx4_bd y
  have bd := doV_bd 1 (wd.zx x 4) (wd.zx y 4) (by omega) (by omega) (by omega) (by omega)
  go_enter Try.func26, Try.ntmps26
  go_wp2_with fail
  refine (zext4 x _ x0 x1).mono ?_
  rintro e w' ⟨rfl, rfl⟩
  go_wp2_with fail
  refine (zext4 y _ y0 y1).mono ?_
  rintro e w' ⟨rfl, rfl⟩
  go_wp2_with fail
  refine (do1 (wd.zx x 4) (wd.zx y 4) _ (by omega) (by omega) (by omega) (by omega)).mono ?_
  rintro e wA ⟨rfl, hg⟩
  go_wp2_with fail
  refine (sext4 _ _ bd.1 bd.2).mono ?_
  rintro e w' ⟨rfl, rfl⟩
  go_wp2
  go_ret2
  exact ⟨rfl, hg⟩
theorem rhalf1 (x y : Int) (w : World) (x0 : 0 ≤ x) (x1 : x < 18446744073709551616) (y0 : 0 ≤ y) (y1 : y < 18446744073709551616) : Calls Try.prog 27 #[.int .i64 1, .int .u64 x, .int .u64 y] w fun e w' => e = .returned (.tuple #[.int .u64 (wd.halfV 1 x y), .int .i64 0]) ∧ w = w' := by
  rw [halfV1]
  have bx := zx4_bd x
  have bY := zx4_bd y
  have sX := sx4_bd x
  have sY := sx4_bd y
  have bd := doV_bd 1 (wd.zx x 4) (wd.zx y 4) (by omega) (by omega) (by omega) (by omega)
  go_enter Try.func27, Try.ntmps27
  go_wp2_with fail
  refine (rzext4 x _ x0 x1).mono ?_
  rintro e w' ⟨rfl, rfl⟩
  go_wp2_with fail
  refine (rzext4 y _ y0 y1).mono ?_
  rintro e w' ⟨rfl, rfl⟩
  go_wp2_with fail
  refine (rdo1 (wd.zx x 4) (wd.zx y 4) _ (by omega) (by omega) (by omega) (by omega)).mono ?_
  rintro e w' ⟨rfl, rfl⟩
  go_wp2_with fail
  refine (rsext4 _ _ bd.1 bd.2).mono ?_
  rintro e w' ⟨rfl, rfl⟩
  go_wp2
  go_ret2
  exact ⟨rfl, rfl⟩
theorem halfV2 (x y : Int) : wd.halfV 2 x y = wd.sx (wd.doV 2 (wd.zx x 4) (wd.zx y 4)) 4 := by simp [wd.halfV, wd.halfOk, wd.halfX, wd.halfY]
theorem half2 (x y : Int) (w : World) (x0 : 0 ≤ x) (x1 : x < 18446744073709551616) (y0 : 0 ≤ y) (y1 : y < 18446744073709551616) : Calls Try.prog 26 #[.int .i64 2, .int .u64 x, .int .u64 y] w fun e w' => e = .returned (.tuple #[.int .u64 (wd.halfV 2 x y), .int .i64 0]) ∧ Below w.heap.size w w' := by
  rw [halfV2]
  have bx := zx4_bd x
  have bY := zx4_bd y
  have sX := sx4_bd x
  have sY := sx4_bd y
  have bd := doV_bd 2 (wd.zx x 4) (wd.zx y 4) (by omega) (by omega) (by omega) (by omega)
  go_enter Try.func26, Try.ntmps26
  go_wp2_with fail
  refine (zext4 x _ x0 x1).mono ?_
  rintro e w' ⟨rfl, rfl⟩
  go_wp2_with fail
  refine (zext4 y _ y0 y1).mono ?_
  rintro e w' ⟨rfl, rfl⟩
  go_wp2_with fail
  refine (do2 (wd.zx x 4) (wd.zx y 4) _ (by omega) (by omega) (by omega) (by omega)).mono ?_
  rintro e wA ⟨rfl, hg⟩
  go_wp2_with fail
  refine (sext4 _ _ bd.1 bd.2).mono ?_
  rintro e w' ⟨rfl, rfl⟩
  go_wp2
  go_ret2
  exact ⟨rfl, hg⟩
theorem rhalf2 (x y : Int) (w : World) (x0 : 0 ≤ x) (x1 : x < 18446744073709551616) (y0 : 0 ≤ y) (y1 : y < 18446744073709551616) : Calls Try.prog 27 #[.int .i64 2, .int .u64 x, .int .u64 y] w fun e w' => e = .returned (.tuple #[.int .u64 (wd.halfV 2 x y), .int .i64 0]) ∧ w = w' := by
  rw [halfV2]
  have bx := zx4_bd x
  have bY := zx4_bd y
  have sX := sx4_bd x
  have sY := sx4_bd y
  have bd := doV_bd 2 (wd.zx x 4) (wd.zx y 4) (by omega) (by omega) (by omega) (by omega)
  go_enter Try.func27, Try.ntmps27
  go_wp2_with fail
  refine (rzext4 x _ x0 x1).mono ?_
  rintro e w' ⟨rfl, rfl⟩
  go_wp2_with fail
  refine (rzext4 y _ y0 y1).mono ?_
  rintro e w' ⟨rfl, rfl⟩
  go_wp2_with fail
  refine (rdo2 (wd.zx x 4) (wd.zx y 4) _ (by omega) (by omega) (by omega) (by omega)).mono ?_
  rintro e w' ⟨rfl, rfl⟩
  go_wp2_with fail
  refine (rsext4 _ _ bd.1 bd.2).mono ?_
  rintro e w' ⟨rfl, rfl⟩
  go_wp2
  go_ret2
  exact ⟨rfl, rfl⟩
theorem halfV3 (x y : Int) : wd.halfV 3 x y = wd.sx (wd.doV 3 (wd.zx x 4) (wd.zx y 4)) 4 := by simp [wd.halfV, wd.halfOk, wd.halfX, wd.halfY]
theorem half3 (x y : Int) (w : World) (x0 : 0 ≤ x) (x1 : x < 18446744073709551616) (y0 : 0 ≤ y) (y1 : y < 18446744073709551616) : Calls Try.prog 26 #[.int .i64 3, .int .u64 x, .int .u64 y] w fun e w' => e = .returned (.tuple #[.int .u64 (wd.halfV 3 x y), .int .i64 0]) ∧ Below w.heap.size w w' := by
  rw [halfV3]
  have bx := zx4_bd x
  have bY := zx4_bd y
  have sX := sx4_bd x
  have sY := sx4_bd y
  have bd := doV_bd 3 (wd.zx x 4) (wd.zx y 4) (by omega) (by omega) (by omega) (by omega)
  go_enter Try.func26, Try.ntmps26
  go_wp2_with fail
  refine (zext4 x _ x0 x1).mono ?_
  rintro e w' ⟨rfl, rfl⟩
  go_wp2_with fail
  refine (zext4 y _ y0 y1).mono ?_
  rintro e w' ⟨rfl, rfl⟩
  go_wp2_with fail
  refine (do3 (wd.zx x 4) (wd.zx y 4) _ (by omega) (by omega) (by omega) (by omega)).mono ?_
  rintro e wA ⟨rfl, hg⟩
  go_wp2_with fail
  refine (sext4 _ _ bd.1 bd.2).mono ?_
  rintro e w' ⟨rfl, rfl⟩
  go_wp2
  go_ret2
  exact ⟨rfl, hg⟩
theorem rhalf3 (x y : Int) (w : World) (x0 : 0 ≤ x) (x1 : x < 18446744073709551616) (y0 : 0 ≤ y) (y1 : y < 18446744073709551616) : Calls Try.prog 27 #[.int .i64 3, .int .u64 x, .int .u64 y] w fun e w' => e = .returned (.tuple #[.int .u64 (wd.halfV 3 x y), .int .i64 0]) ∧ w = w' := by
  rw [halfV3]
  have bx := zx4_bd x
  have bY := zx4_bd y
  have sX := sx4_bd x
  have sY := sx4_bd y
  have bd := doV_bd 3 (wd.zx x 4) (wd.zx y 4) (by omega) (by omega) (by omega) (by omega)
  go_enter Try.func27, Try.ntmps27
  go_wp2_with fail
  refine (rzext4 x _ x0 x1).mono ?_
  rintro e w' ⟨rfl, rfl⟩
  go_wp2_with fail
  refine (rzext4 y _ y0 y1).mono ?_
  rintro e w' ⟨rfl, rfl⟩
  go_wp2_with fail
  refine (rdo3 (wd.zx x 4) (wd.zx y 4) _ (by omega) (by omega) (by omega) (by omega)).mono ?_
  rintro e w' ⟨rfl, rfl⟩
  go_wp2_with fail
  refine (rsext4 _ _ bd.1 bd.2).mono ?_
  rintro e w' ⟨rfl, rfl⟩
  go_wp2
  go_ret2
  exact ⟨rfl, rfl⟩
theorem halfV7 (x y : Int) : wd.halfV 7 x y = wd.sx (wd.doV 7 (wd.sx x 4) (wd.sx y 4)) 4 := by simp [wd.halfV, wd.halfOk, wd.halfX, wd.halfY]
theorem half7 (x y : Int) (w : World) (x0 : 0 ≤ x) (x1 : x < 18446744073709551616) (y0 : 0 ≤ y) (y1 : y < 18446744073709551616) : Calls Try.prog 26 #[.int .i64 7, .int .u64 x, .int .u64 y] w fun e w' => e = .returned (.tuple #[.int .u64 (wd.halfV 7 x y), .int .i64 0]) ∧ Below w.heap.size w w' := by
  rw [halfV7]
  have bx := zx4_bd x
  have bY := zx4_bd y
  have sX := sx4_bd x
  have sY := sx4_bd y
  have bd := doV_bd 7 (wd.sx x 4) (wd.sx y 4) (by omega) (by omega) (by omega) (by omega)
  go_enter Try.func26, Try.ntmps26
  go_wp2_with fail
  refine (zext4 x _ x0 x1).mono ?_
  rintro e w' ⟨rfl, rfl⟩
  go_wp2_with fail
  refine (zext4 y _ y0 y1).mono ?_
  rintro e w' ⟨rfl, rfl⟩
  go_wp2_with fail
  refine (sext4 _ _ bx.1 bx.2).mono ?_
  rw [sx_zx]
  rintro e w' ⟨rfl, rfl⟩
  go_wp2_with fail
  refine (sext4 _ _ bY.1 bY.2).mono ?_
  rw [sx_zx]
  rintro e w' ⟨rfl, rfl⟩
  go_wp2_with fail
  refine (do7 (wd.sx x 4) (wd.sx y 4) _ (by omega) (by omega) (by omega) (by omega)).mono ?_
  rintro e wA ⟨rfl, hg⟩
  go_wp2_with fail
  refine (sext4 _ _ bd.1 bd.2).mono ?_
  rintro e w' ⟨rfl, rfl⟩
  go_wp2
  go_ret2
  exact ⟨rfl, hg⟩
theorem rhalf7 (x y : Int) (w : World) (x0 : 0 ≤ x) (x1 : x < 18446744073709551616) (y0 : 0 ≤ y) (y1 : y < 18446744073709551616) : Calls Try.prog 27 #[.int .i64 7, .int .u64 x, .int .u64 y] w fun e w' => e = .returned (.tuple #[.int .u64 (wd.halfV 7 x y), .int .i64 0]) ∧ w = w' := by
  rw [halfV7]
  have bx := zx4_bd x
  have bY := zx4_bd y
  have sX := sx4_bd x
  have sY := sx4_bd y
  have bd := doV_bd 7 (wd.sx x 4) (wd.sx y 4) (by omega) (by omega) (by omega) (by omega)
  go_enter Try.func27, Try.ntmps27
  go_wp2_with fail
  refine (rzext4 x _ x0 x1).mono ?_
  rintro e w' ⟨rfl, rfl⟩
  go_wp2_with fail
  refine (rzext4 y _ y0 y1).mono ?_
  rintro e w' ⟨rfl, rfl⟩
  go_wp2_with fail
  refine (rsext4 x _ x0 x1).mono ?_
  rintro e w' ⟨rfl, rfl⟩
  go_wp2_with fail
  refine (rsext4 y _ y0 y1).mono ?_
  rintro e w' ⟨rfl, rfl⟩
  go_wp2_with fail
  refine (rdo7 (wd.sx x 4) (wd.sx y 4) _ (by omega) (by omega) (by omega) (by omega)).mono ?_
  rintro e w' ⟨rfl, rfl⟩
  go_wp2_with fail
  refine (rsext4 _ _ bd.1 bd.2).mono ?_
  rintro e w' ⟨rfl, rfl⟩
  go_wp2
  go_ret2
  exact ⟨rfl, rfl⟩
theorem halfV8 (x y : Int) : wd.halfV 8 x y = wd.sx (wd.doV 8 (wd.zx x 4) (wd.zx y 4)) 4 := by simp [wd.halfV, wd.halfOk, wd.halfX, wd.halfY]
theorem half8 (x y : Int) (w : World) (x0 : 0 ≤ x) (x1 : x < 18446744073709551616) (y0 : 0 ≤ y) (y1 : y < 18446744073709551616) : Calls Try.prog 26 #[.int .i64 8, .int .u64 x, .int .u64 y] w fun e w' => e = .returned (.tuple #[.int .u64 (wd.halfV 8 x y), .int .i64 0]) ∧ Below w.heap.size w w' := by
  rw [halfV8]
  have bx := zx4_bd x
  have bY := zx4_bd y
  have sX := sx4_bd x
  have sY := sx4_bd y
  have bd := doV_bd 8 (wd.zx x 4) (wd.zx y 4) (by omega) (by omega) (by omega) (by omega)
  go_enter Try.func26, Try.ntmps26
  go_wp2_with fail
  refine (zext4 x _ x0 x1).mono ?_
  rintro e w' ⟨rfl, rfl⟩
  go_wp2_with fail
  refine (zext4 y _ y0 y1).mono ?_
  rintro e w' ⟨rfl, rfl⟩
  go_wp2_with fail
  refine (do8 (wd.zx x 4) (wd.zx y 4) _ (by omega) (by omega) (by omega) (by omega)).mono ?_
  rintro e wA ⟨rfl, hg⟩
  go_wp2_with fail
  refine (sext4 _ _ bd.1 bd.2).mono ?_
  rintro e w' ⟨rfl, rfl⟩
  go_wp2
  go_ret2
  exact ⟨rfl, hg⟩
theorem rhalf8 (x y : Int) (w : World) (x0 : 0 ≤ x) (x1 : x < 18446744073709551616) (y0 : 0 ≤ y) (y1 : y < 18446744073709551616) : Calls Try.prog 27 #[.int .i64 8, .int .u64 x, .int .u64 y] w fun e w' => e = .returned (.tuple #[.int .u64 (wd.halfV 8 x y), .int .i64 0]) ∧ w = w' := by
  rw [halfV8]
  have bx := zx4_bd x
  have bY := zx4_bd y
  have sX := sx4_bd x
  have sY := sx4_bd y
  have bd := doV_bd 8 (wd.zx x 4) (wd.zx y 4) (by omega) (by omega) (by omega) (by omega)
  go_enter Try.func27, Try.ntmps27
  go_wp2_with fail
  refine (rzext4 x _ x0 x1).mono ?_
  rintro e w' ⟨rfl, rfl⟩
  go_wp2_with fail
  refine (rzext4 y _ y0 y1).mono ?_
  rintro e w' ⟨rfl, rfl⟩
  go_wp2_with fail
  refine (rdo8 (wd.zx x 4) (wd.zx y 4) _ (by omega) (by omega) (by omega) (by omega)).mono ?_
  rintro e w' ⟨rfl, rfl⟩
  go_wp2_with fail
  refine (rsext4 _ _ bd.1 bd.2).mono ?_
  rintro e w' ⟨rfl, rfl⟩
  go_wp2
  go_ret2
  exact ⟨rfl, rfl⟩
theorem halfV9 (x y : Int) : wd.halfV 9 x y = wd.sx (wd.doV 9 (wd.sx x 4) (wd.sx y 4)) 4 := by simp [wd.halfV, wd.halfOk, wd.halfX, wd.halfY]
theorem half9 (x y : Int) (w : World) (x0 : 0 ≤ x) (x1 : x < 18446744073709551616) (y0 : 0 ≤ y) (y1 : y < 18446744073709551616) : Calls Try.prog 26 #[.int .i64 9, .int .u64 x, .int .u64 y] w fun e w' => e = .returned (.tuple #[.int .u64 (wd.halfV 9 x y), .int .i64 0]) ∧ Below w.heap.size w w' := by
  rw [halfV9]
  have bx := zx4_bd x
  have bY := zx4_bd y
  have sX := sx4_bd x
  have sY := sx4_bd y
  have bd := doV_bd 9 (wd.sx x 4) (wd.sx y 4) (by omega) (by omega) (by omega) (by omega)
  go_enter Try.func26, Try.ntmps26
  go_wp2_with fail
  refine (zext4 x _ x0 x1).mono ?_
  rintro e w' ⟨rfl, rfl⟩
  go_wp2_with fail
  refine (zext4 y _ y0 y1).mono ?_
  rintro e w' ⟨rfl, rfl⟩
  go_wp2_with fail
  refine (sext4 _ _ bx.1 bx.2).mono ?_
  rw [sx_zx]
  rintro e w' ⟨rfl, rfl⟩
  go_wp2_with fail
  refine (sext4 _ _ bY.1 bY.2).mono ?_
  rw [sx_zx]
  rintro e w' ⟨rfl, rfl⟩
  go_wp2_with fail
  refine (do9 (wd.sx x 4) (wd.sx y 4) _ (by omega) (by omega) (by omega) (by omega)).mono ?_
  rintro e wA ⟨rfl, hg⟩
  go_wp2_with fail
  refine (sext4 _ _ bd.1 bd.2).mono ?_
  rintro e w' ⟨rfl, rfl⟩
  go_wp2
  go_ret2
  exact ⟨rfl, hg⟩
theorem rhalf9 (x y : Int) (w : World) (x0 : 0 ≤ x) (x1 : x < 18446744073709551616) (y0 : 0 ≤ y) (y1 : y < 18446744073709551616) : Calls Try.prog 27 #[.int .i64 9, .int .u64 x, .int .u64 y] w fun e w' => e = .returned (.tuple #[.int .u64 (wd.halfV 9 x y), .int .i64 0]) ∧ w = w' := by
  rw [halfV9]
  have bx := zx4_bd x
  have bY := zx4_bd y
  have sX := sx4_bd x
  have sY := sx4_bd y
  have bd := doV_bd 9 (wd.sx x 4) (wd.sx y 4) (by omega) (by omega) (by omega) (by omega)
  go_enter Try.func27, Try.ntmps27
  go_wp2_with fail
  refine (rzext4 x _ x0 x1).mono ?_
  rintro e w' ⟨rfl, rfl⟩
  go_wp2_with fail
  refine (rzext4 y _ y0 y1).mono ?_
  rintro e w' ⟨rfl, rfl⟩
  go_wp2_with fail
  refine (rsext4 x _ x0 x1).mono ?_
  rintro e w' ⟨rfl, rfl⟩
  go_wp2_with fail
  refine (rsext4 y _ y0 y1).mono ?_
  rintro e w' ⟨rfl, rfl⟩
  go_wp2_with fail
  refine (rdo9 (wd.sx x 4) (wd.sx y 4) _ (by omega) (by omega) (by omega) (by omega)).mono ?_
  rintro e w' ⟨rfl, rfl⟩
  go_wp2_with fail
  refine (rsext4 _ _ bd.1 bd.2).mono ?_
  rintro e w' ⟨rfl, rfl⟩
  go_wp2
  go_ret2
  exact ⟨rfl, rfl⟩
theorem halfV10 (x y : Int) : wd.halfV 10 x y = wd.sx (wd.doV 10 (wd.zx x 4) (wd.zx y 4)) 4 := by simp [wd.halfV, wd.halfOk, wd.halfX, wd.halfY]
theorem half10 (x y : Int) (w : World) (x0 : 0 ≤ x) (x1 : x < 18446744073709551616) (y0 : 0 ≤ y) (y1 : y < 18446744073709551616) : Calls Try.prog 26 #[.int .i64 10, .int .u64 x, .int .u64 y] w fun e w' => e = .returned (.tuple #[.int .u64 (wd.halfV 10 x y), .int .i64 0]) ∧ Below w.heap.size w w' := by
  rw [halfV10]
  have bx := zx4_bd x
  have bY := zx4_bd y
  have sX := sx4_bd x
  have sY := sx4_bd y
  have bd := doV_bd 10 (wd.zx x 4) (wd.zx y 4) (by omega) (by omega) (by omega) (by omega)
  go_enter Try.func26, Try.ntmps26
  go_wp2_with fail
  refine (zext4 x _ x0 x1).mono ?_
  rintro e w' ⟨rfl, rfl⟩
  go_wp2_with fail
  refine (zext4 y _ y0 y1).mono ?_
  rintro e w' ⟨rfl, rfl⟩
  go_wp2_with fail
  refine (do10 (wd.zx x 4) (wd.zx y 4) _ (by omega) (by omega) (by omega) (by omega)).mono ?_
  rintro e wA ⟨rfl, hg⟩
  go_wp2_with fail
  refine (sext4 _ _ bd.1 bd.2).mono ?_
  rintro e w' ⟨rfl, rfl⟩
  go_wp2
  go_ret2
  exact ⟨rfl, hg⟩
theorem rhalf10 (x y : Int) (w : World) (x0 : 0 ≤ x) (x1 : x < 18446744073709551616) (y0 : 0 ≤ y) (y1 : y < 18446744073709551616) : Calls Try.prog 27 #[.int .i64 10, .int .u64 x, .int .u64 y] w fun e w' => e = .returned (.tuple #[.int .u64 (wd.halfV 10 x y), .int .i64 0]) ∧ w = w' := by
  rw [halfV10]
  have bx := zx4_bd x
  have bY := zx4_bd y
  have sX := sx4_bd x
  have sY := sx4_bd y
  have bd := doV_bd 10 (wd.zx x 4) (wd.zx y 4) (by omega) (by omega) (by omega) (by omega)
  go_enter Try.func27, Try.ntmps27
  go_wp2_with fail
  refine (rzext4 x _ x0 x1).mono ?_
  rintro e w' ⟨rfl, rfl⟩
  go_wp2_with fail
  refine (rzext4 y _ y0 y1).mono ?_
  rintro e w' ⟨rfl, rfl⟩
  go_wp2_with fail
  refine (rdo10 (wd.zx x 4) (wd.zx y 4) _ (by omega) (by omega) (by omega) (by omega)).mono ?_
  rintro e w' ⟨rfl, rfl⟩
  go_wp2_with fail
  refine (rsext4 _ _ bd.1 bd.2).mono ?_
  rintro e w' ⟨rfl, rfl⟩
  go_wp2
  go_ret2
  exact ⟨rfl, rfl⟩
theorem halfV14 (x y : Int) : wd.halfV 14 x y = wd.sx (wd.doV 14 (wd.zx x 4) (wd.zx y 4 % 32)) 4 := by simp [wd.halfV, wd.halfOk, wd.halfX, wd.halfY]
theorem half14 (x y : Int) (w : World) (x0 : 0 ≤ x) (x1 : x < 18446744073709551616) (y0 : 0 ≤ y) (y1 : y < 18446744073709551616) : Calls Try.prog 26 #[.int .i64 14, .int .u64 x, .int .u64 y] w fun e w' => e = .returned (.tuple #[.int .u64 (wd.halfV 14 x y), .int .i64 0]) ∧ Below w.heap.size w w' := by
  rw [halfV14]
  have bx := zx4_bd x
  have bY := zx4_bd y
  have sX := sx4_bd x
  have sY := sx4_bd y
  have bd := doV_bd 14 (wd.zx x 4) (wd.zx y 4 % 32) (by omega) (by omega) (by omega) (by omega)
  go_enter Try.func26, Try.ntmps26
  go_wp2_with fail
  refine (zext4 x _ x0 x1).mono ?_
  rintro e w' ⟨rfl, rfl⟩
  go_wp2_with fail
  refine (zext4 y _ y0 y1).mono ?_
  rintro e w' ⟨rfl, rfl⟩
  go_wp2_with fail
  refine (do14 (wd.zx x 4) (wd.zx y 4 % 32) _ (by omega) (by omega) (by omega) (by omega)).mono ?_
  rintro e wA ⟨rfl, hg⟩
  go_wp2_with fail
  refine (sext4 _ _ bd.1 bd.2).mono ?_
  rintro e w' ⟨rfl, rfl⟩
  go_wp2
  go_ret2
  exact ⟨rfl, hg⟩
theorem rhalf14 (x y : Int) (w : World) (x0 : 0 ≤ x) (x1 : x < 18446744073709551616) (y0 : 0 ≤ y) (y1 : y < 18446744073709551616) : Calls Try.prog 27 #[.int .i64 14, .int .u64 x, .int .u64 y] w fun e w' => e = .returned (.tuple #[.int .u64 (wd.halfV 14 x y), .int .i64 0]) ∧ w = w' := by
  rw [halfV14]
  have bx := zx4_bd x
  have bY := zx4_bd y
  have sX := sx4_bd x
  have sY := sx4_bd y
  have bd := doV_bd 14 (wd.zx x 4) (wd.zx y 4 % 32) (by omega) (by omega) (by omega) (by omega)
  go_enter Try.func27, Try.ntmps27
  go_wp2_with fail
  refine (rzext4 x _ x0 x1).mono ?_
  rintro e w' ⟨rfl, rfl⟩
  go_wp2_with fail
  refine (rzext4 y _ y0 y1).mono ?_
  rintro e w' ⟨rfl, rfl⟩
  go_wp2_with fail
  refine (rdo14 (wd.zx x 4) (wd.zx y 4 % 32) _ (by omega) (by omega) (by omega) (by omega)).mono ?_
  rintro e w' ⟨rfl, rfl⟩
  go_wp2_with fail
  refine (rsext4 _ _ bd.1 bd.2).mono ?_
  rintro e w' ⟨rfl, rfl⟩
  go_wp2
  go_ret2
  exact ⟨rfl, rfl⟩
theorem halfV15 (x y : Int) : wd.halfV 15 x y = wd.sx (wd.doV 15 (wd.zx x 4) (wd.zx y 4 % 32)) 4 := by simp [wd.halfV, wd.halfOk, wd.halfX, wd.halfY]
theorem half15 (x y : Int) (w : World) (x0 : 0 ≤ x) (x1 : x < 18446744073709551616) (y0 : 0 ≤ y) (y1 : y < 18446744073709551616) : Calls Try.prog 26 #[.int .i64 15, .int .u64 x, .int .u64 y] w fun e w' => e = .returned (.tuple #[.int .u64 (wd.halfV 15 x y), .int .i64 0]) ∧ Below w.heap.size w w' := by
  rw [halfV15]
  have bx := zx4_bd x
  have bY := zx4_bd y
  have sX := sx4_bd x
  have sY := sx4_bd y
  have bd := doV_bd 15 (wd.zx x 4) (wd.zx y 4 % 32) (by omega) (by omega) (by omega) (by omega)
  go_enter Try.func26, Try.ntmps26
  go_wp2_with fail
  refine (zext4 x _ x0 x1).mono ?_
  rintro e w' ⟨rfl, rfl⟩
  go_wp2_with fail
  refine (zext4 y _ y0 y1).mono ?_
  rintro e w' ⟨rfl, rfl⟩
  go_wp2_with fail
  refine (do15 (wd.zx x 4) (wd.zx y 4 % 32) _ (by omega) (by omega) (by omega) (by omega)).mono ?_
  rintro e wA ⟨rfl, hg⟩
  go_wp2_with fail
  refine (sext4 _ _ bd.1 bd.2).mono ?_
  rintro e w' ⟨rfl, rfl⟩
  go_wp2
  go_ret2
  exact ⟨rfl, hg⟩
theorem rhalf15 (x y : Int) (w : World) (x0 : 0 ≤ x) (x1 : x < 18446744073709551616) (y0 : 0 ≤ y) (y1 : y < 18446744073709551616) : Calls Try.prog 27 #[.int .i64 15, .int .u64 x, .int .u64 y] w fun e w' => e = .returned (.tuple #[.int .u64 (wd.halfV 15 x y), .int .i64 0]) ∧ w = w' := by
  rw [halfV15]
  have bx := zx4_bd x
  have bY := zx4_bd y
  have sX := sx4_bd x
  have sY := sx4_bd y
  have bd := doV_bd 15 (wd.zx x 4) (wd.zx y 4 % 32) (by omega) (by omega) (by omega) (by omega)
  go_enter Try.func27, Try.ntmps27
  go_wp2_with fail
  refine (rzext4 x _ x0 x1).mono ?_
  rintro e w' ⟨rfl, rfl⟩
  go_wp2_with fail
  refine (rzext4 y _ y0 y1).mono ?_
  rintro e w' ⟨rfl, rfl⟩
  go_wp2_with fail
  refine (rdo15 (wd.zx x 4) (wd.zx y 4 % 32) _ (by omega) (by omega) (by omega) (by omega)).mono ?_
  rintro e w' ⟨rfl, rfl⟩
  go_wp2_with fail
  refine (rsext4 _ _ bd.1 bd.2).mono ?_
  rintro e w' ⟨rfl, rfl⟩
  go_wp2
  go_ret2
  exact ⟨rfl, rfl⟩
theorem halfV16 (x y : Int) : wd.halfV 16 x y = wd.sx (wd.doV 16 (wd.sx x 4) (wd.zx y 4 % 32)) 4 := by simp [wd.halfV, wd.halfOk, wd.halfX, wd.halfY]
theorem half16 (x y : Int) (w : World) (x0 : 0 ≤ x) (x1 : x < 18446744073709551616) (y0 : 0 ≤ y) (y1 : y < 18446744073709551616) : Calls Try.prog 26 #[.int .i64 16, .int .u64 x, .int .u64 y] w fun e w' => e = .returned (.tuple #[.int .u64 (wd.halfV 16 x y), .int .i64 0]) ∧ Below w.heap.size w w' := by
  rw [halfV16]
  have bx := zx4_bd x
  have bY := zx4_bd y
  have sX := sx4_bd x
  have sY := sx4_bd y
  have bd := doV_bd 16 (wd.sx x 4) (wd.zx y 4 % 32) (by omega) (by omega) (by omega) (by omega)
  go_enter Try.func26, Try.ntmps26
  go_wp2_with fail
  refine (zext4 x _ x0 x1).mono ?_
  rintro e w' ⟨rfl, rfl⟩
  go_wp2_with fail
  refine (zext4 y _ y0 y1).mono ?_
  rintro e w' ⟨rfl, rfl⟩
  go_wp2_with fail
  refine (sext4 _ _ bx.1 bx.2).mono ?_
  rw [sx_zx]
  rintro e w' ⟨rfl, rfl⟩
  go_wp2_with fail
  refine (do16 (wd.sx x 4) (wd.zx y 4 % 32) _ (by omega) (by omega) (by omega) (by omega)).mono ?_
  rintro e wA ⟨rfl, hg⟩
  go_wp2_with fail
  refine (sext4 _ _ bd.1 bd.2).mono ?_
  rintro e w' ⟨rfl, rfl⟩
  go_wp2
  go_ret2
  exact ⟨rfl, hg⟩
theorem rhalf16 (x y : Int) (w : World) (x0 : 0 ≤ x) (x1 : x < 18446744073709551616) (y0 : 0 ≤ y) (y1 : y < 18446744073709551616) : Calls Try.prog 27 #[.int .i64 16, .int .u64 x, .int .u64 y] w fun e w' => e = .returned (.tuple #[.int .u64 (wd.halfV 16 x y), .int .i64 0]) ∧ w = w' := by
  rw [halfV16]
  have bx := zx4_bd x
  have bY := zx4_bd y
  have sX := sx4_bd x
  have sY := sx4_bd y
  have sm := sx4_mod y
  have bd := doV_bd 16 (wd.sx x 4) (wd.zx y 4 % 32) (by omega) (by omega) (by omega) (by omega)
  go_enter Try.func27, Try.ntmps27
  go_wp2_with fail
  refine (rzext4 x _ x0 x1).mono ?_
  rintro e w' ⟨rfl, rfl⟩
  go_wp2_with fail
  refine (rzext4 y _ y0 y1).mono ?_
  rintro e w' ⟨rfl, rfl⟩
  go_wp2_with fail
  refine (rsext4 x _ x0 x1).mono ?_
  rintro e w' ⟨rfl, rfl⟩
  go_wp2_with fail
  refine (rsext4 y _ y0 y1).mono ?_
  rintro e w' ⟨rfl, rfl⟩
  go_wp2_with fail
  refine (rdo16 (wd.sx x 4) (wd.zx y 4 % 32) _ (by omega) (by omega) (by omega) (by omega)).mono ?_
  rintro e w' ⟨rfl, rfl⟩
  go_wp2_with fail
  refine (rsext4 _ _ bd.1 bd.2).mono ?_
  rintro e w' ⟨rfl, rfl⟩
  go_wp2
  go_ret2
  exact ⟨rfl, rfl⟩
theorem half_no (f x y : Int) (w : World) (x0 : 0 ≤ x) (x1 : x < 18446744073709551616) (y0 : 0 ≤ y) (y1 : y < 18446744073709551616) (h : ¬ (f = 1 ∨ f = 2 ∨ f = 3 ∨ f = 7 ∨ f = 8 ∨ f = 9 ∨ f = 10 ∨ f = 14 ∨ f = 15 ∨ f = 16)) : Calls Try.prog 26 #[.int .i64 f, .int .u64 x, .int .u64 y] w fun e w' => e = .returned (.tuple #[.int .u64 0, .int .i64 2]) ∧ w = w' := by
  have n1 : (f == 1) = false := by simp; omega
  have n2 : (f == 2) = false := by simp; omega
  have n3 : (f == 3) = false := by simp; omega
  have n7 : (f == 7) = false := by simp; omega
  have n8 : (f == 8) = false := by simp; omega
  have n9 : (f == 9) = false := by simp; omega
  have n10 : (f == 10) = false := by simp; omega
  have n14 : (f == 14) = false := by simp; omega
  have n15 : (f == 15) = false := by simp; omega
  have n16 : (f == 16) = false := by simp; omega
  clear h
  go_enter Try.func26, Try.ntmps26
  go_wp2_with fail
  refine (zext4 x _ x0 x1).mono ?_
  rintro e w' ⟨rfl, rfl⟩
  go_wp2_with fail
  refine (zext4 y _ y0 y1).mono ?_
  rintro e w' ⟨rfl, rfl⟩
  go_wp2
  go_ret2
  exact ⟨rfl, rfl⟩
theorem rhalf_no (f x y : Int) (w : World) (x0 : 0 ≤ x) (x1 : x < 18446744073709551616) (y0 : 0 ≤ y) (y1 : y < 18446744073709551616) (h : ¬ (f = 1 ∨ f = 2 ∨ f = 3 ∨ f = 7 ∨ f = 8 ∨ f = 9 ∨ f = 10 ∨ f = 14 ∨ f = 15 ∨ f = 16)) : Calls Try.prog 27 #[.int .i64 f, .int .u64 x, .int .u64 y] w fun e w' => e = .returned (.tuple #[.int .u64 0, .int .i64 2]) ∧ w = w' := by
  have n1 : (f == 1) = false := by simp; omega
  have n2 : (f == 2) = false := by simp; omega
  have n3 : (f == 3) = false := by simp; omega
  have n7 : (f == 7) = false := by simp; omega
  have n8 : (f == 8) = false := by simp; omega
  have n9 : (f == 9) = false := by simp; omega
  have n10 : (f == 10) = false := by simp; omega
  have n14 : (f == 14) = false := by simp; omega
  have n15 : (f == 15) = false := by simp; omega
  have n16 : (f == 16) = false := by simp; omega
  clear h
  go_enter Try.func27, Try.ntmps27
  go_wp2_with fail
  refine (rzext4 x _ x0 x1).mono ?_
  rintro e w' ⟨rfl, rfl⟩
  go_wp2_with fail
  refine (rzext4 y _ y0 y1).mono ?_
  rintro e w' ⟨rfl, rfl⟩
  go_wp2
  go_ret2
  exact ⟨rfl, rfl⟩
theorem half_any (f x y : Int) (w : World) (x0 : 0 ≤ x) (x1 : x < 18446744073709551616) (y0 : 0 ≤ y) (y1 : y < 18446744073709551616) :
    Calls Try.prog 26 #[.int .i64 f, .int .u64 x, .int .u64 y] w fun e w' => e = .returned (.tuple #[.int .u64 (wd.halfV f x y), .int .i64 (wd.halfE f)]) ∧ Below w.heap.size w w' := by
  by_cases h : f = 1 ∨ f = 2 ∨ f = 3 ∨ f = 7 ∨ f = 8 ∨ f = 9 ∨ f = 10 ∨ f = 14 ∨ f = 15 ∨ f = 16
  · rw [show wd.halfE f = 0 from if_pos (decide_eq_true h)]
    rcases h with rfl | rfl | rfl | rfl | rfl | rfl | rfl | rfl | rfl | rfl
    · exact half1 x y w x0 x1 y0 y1
    · exact half2 x y w x0 x1 y0 y1
    · exact half3 x y w x0 x1 y0 y1
    · exact half7 x y w x0 x1 y0 y1
    · exact half8 x y w x0 x1 y0 y1
    · exact half9 x y w x0 x1 y0 y1
    · exact half10 x y w x0 x1 y0 y1
    · exact half14 x y w x0 x1 y0 y1
    · exact half15 x y w x0 x1 y0 y1
    · exact half16 x y w x0 x1 y0 y1
  · rw [show wd.halfE f = 2 from if_neg (by rw [wd.halfOk, decide_eq_true_eq]; exact h), show wd.halfV f x y = 0 from if_neg (by rw [wd.halfOk, decide_eq_true_eq]; exact h)]
    exact (half_no f x y w x0 x1 y0 y1 h).mono fun e w' q => ⟨q.1, q.2 ▸ Below.refl _ _⟩
theorem rhalf_any (f x y : Int) (w : World) (x0 : 0 ≤ x) (x1 : x < 18446744073709551616) (y0 : 0 ≤ y) (y1 : y < 18446744073709551616) :
    Calls Try.prog 27 #[.int .i64 f, .int .u64 x, .int .u64 y] w fun e w' => e = .returned (.tuple #[.int .u64 (wd.halfV f x y), .int .i64 (wd.halfE f)]) ∧ w = w' := by
  by_cases h : f = 1 ∨ f = 2 ∨ f = 3 ∨ f = 7 ∨ f = 8 ∨ f = 9 ∨ f = 10 ∨ f = 14 ∨ f = 15 ∨ f = 16
  · rw [show wd.halfE f = 0 from if_pos (decide_eq_true h)]
    rcases h with rfl | rfl | rfl | rfl | rfl | rfl | rfl | rfl | rfl | rfl
    · exact rhalf1 x y w x0 x1 y0 y1
    · exact rhalf2 x y w x0 x1 y0 y1
    · exact rhalf3 x y w x0 x1 y0 y1
    · exact rhalf7 x y w x0 x1 y0 y1
    · exact rhalf8 x y w x0 x1 y0 y1
    · exact rhalf9 x y w x0 x1 y0 y1
    · exact rhalf10 x y w x0 x1 y0 y1
    · exact rhalf14 x y w x0 x1 y0 y1
    · exact rhalf15 x y w x0 x1 y0 y1
    · exact rhalf16 x y w x0 x1 y0 y1
  · rw [show wd.halfE f = 2 from if_neg (by rw [wd.halfOk, decide_eq_true_eq]; exact h), show wd.halfV f x y = 0 from if_neg (by rw [wd.halfOk, decide_eq_true_eq]; exact h)]
    exact rhalf_no f x y w x0 x1 y0 y1 h
end Go.Proofs.Ytimchannmigioaa
