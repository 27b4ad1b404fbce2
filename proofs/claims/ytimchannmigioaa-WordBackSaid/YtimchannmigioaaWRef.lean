/- The reference's words: its functions, each by a contract in the same plain numbers. -/
import Derived.Test.YtimchannmigioaaWFns
namespace Go.Proofs.Ytimchannmigioaa
open Go.RowKit
set_option linter.unusedVariables false

/-! ### the plain steps of a shift, and of a division by sizes and signs -/
theorem shl_zero (x : Int) (x0 : 0 ≤ x) (x1 : x < 18446744073709551616) : wd.shl x 0 = x := by
  simp only [wd.shl]
  simp
  omega
theorem shr_zero (x : Int) : wd.shr x 0 = x := by simp [wd.shr]
theorem sar_zero (x : Int) (x0 : 0 ≤ x) (x1 : x < 18446744073709551616) : wd.sar x 0 = x := by
  simp only [wd.sar]
  simp
  unfold wrap64
  omega
theorem shl_succ (x : Int) (k : Nat) : wd.shl x ((k : Int) + 1) = wd.shl x k * 2 % 18446744073709551616 := by
  have e : ((k : Int) + 1).toNat = k + 1 := by omega
  have e2 : ((k : Int)).toNat = k := by omega
  simp only [wd.shl, e, e2, Int.pow_succ]
  rw [← Int.mul_assoc]
  omega
theorem shr_succ (x : Int) (k : Nat) : wd.shr x ((k : Int) + 1) = wd.shr x k / 2 := by
  have e : ((k : Int) + 1).toNat = k + 1 := by omega
  have e2 : ((k : Int)).toNat = k := by omega
  simp only [wd.shr, e, e2, Int.pow_succ]
  rw [Int.ediv_ediv_of_nonneg (Int.le_of_lt (Int.pow_pos (by decide)))]
theorem div_pow_bd (q : Int) (k : Nat) (h1 : -9223372036854775808 ≤ q) (h2 : q < 9223372036854775808) : -9223372036854775808 ≤ q / 2 ^ k ∧ q / 2 ^ k < 9223372036854775808 := by
  have hp : (1 : Int) ≤ 2 ^ k := by have := Int.pow_pos (n := 2) (m := k) (by decide); omega
  constructor
  · rw [Int.le_ediv_iff_mul_le (by omega)]
    have := Int.mul_le_mul_of_nonneg_left hp (show (0 : Int) ≤ 9223372036854775808 by decide)
    omega
  · rw [Int.ediv_lt_iff_lt_mul (by omega)]
    have := Int.mul_le_mul_of_nonneg_left hp (show (0 : Int) ≤ 9223372036854775808 by decide)
    omega
theorem sar_succ (x : Int) (k : Nat) : wd.sar x ((k : Int) + 1) = (wd.sar x k / 2 + wd.sar x k / 9223372036854775808 * 9223372036854775808) % 18446744073709551616 := by
  have e : ((k : Int) + 1).toNat = k + 1 := by omega
  have e2 : ((k : Int)).toNat = k := by omega
  simp only [wd.sar, e, e2, Int.pow_succ]
  rw [← Int.ediv_ediv_of_nonneg (Int.le_of_lt (Int.pow_pos (by decide)))]
  have hb := div_pow_bd (wrap64 x) k (by unfold wrap64; omega) (by unfold wrap64; omega)
  generalize wrap64 x / 2 ^ k = q at *
  omega
theorem shr_bd (x : Int) (k : Int) (x0 : 0 ≤ x) (x1 : x < 18446744073709551616) : 0 ≤ wd.shr x k ∧ wd.shr x k < 18446744073709551616 := by
  have hp : (1 : Int) ≤ 2 ^ k.toNat := by have := Int.pow_pos (n := 2) (m := k.toNat) (by decide); omega
  unfold wd.shr
  exact ⟨Int.ediv_nonneg x0 (by omega), Int.lt_of_le_of_lt (Int.ediv_le_self _ x0) x1⟩
theorem tdiv_nn (a b : Int) (ha : 0 ≤ a) : (-a).tdiv (-b) = a / b := by rw [Int.neg_tdiv, Int.tdiv_neg, Int.neg_neg, Int.tdiv_eq_ediv_of_nonneg ha]
theorem tdiv_np (a b : Int) (ha : 0 ≤ a) : (-a).tdiv b = -(a / b) := by rw [Int.neg_tdiv, Int.tdiv_eq_ediv_of_nonneg ha]
theorem tdiv_pn (a b : Int) (ha : 0 ≤ a) : a.tdiv (-b) = -(a / b) := by rw [Int.tdiv_neg, Int.tdiv_eq_ediv_of_nonneg ha]
theorem tdiv_pp (a b : Int) (ha : 0 ≤ a) : a.tdiv b = a / b := Int.tdiv_eq_ediv_of_nonneg ha
theorem tmod_nn (a b : Int) (ha : 0 ≤ a) : (-a).tmod (-b) = -(a % b) := by rw [Int.neg_tmod, Int.tmod_neg, Int.tmod_eq_emod_of_nonneg ha]
theorem tmod_np (a b : Int) (ha : 0 ≤ a) : (-a).tmod b = -(a % b) := by rw [Int.neg_tmod, Int.tmod_eq_emod_of_nonneg ha]
theorem tmod_pn (a b : Int) (ha : 0 ≤ a) : a.tmod (-b) = a % b := by rw [Int.tmod_neg, Int.tmod_eq_emod_of_nonneg ha]
theorem tmod_pp (a b : Int) (ha : 0 ≤ a) : a.tmod b = a % b := Int.tmod_eq_emod_of_nonneg ha

/-! ### the reference's small functions -/
theorem rhigh_any (x y : Int) (w : World) (x0 : 0 ≤ x) (x1 : x < 18446744073709551616) (y0 : 0 ≤ y) (y1 : y < 18446744073709551616) : Calls Try.prog 59 #[.int .u64 x, .int .u64 y] w fun e w' => e = .returned (.int .u64 (wd.hi x y)) ∧ w = w' := by
  obtain ⟨a, ha⟩ : ∃ a, x / 4294967296 = a := ⟨_, rfl⟩
  obtain ⟨b, hb⟩ : ∃ b, x % 4294967296 = b := ⟨_, rfl⟩
  obtain ⟨c, hc⟩ : ∃ c, y / 4294967296 = c := ⟨_, rfl⟩
  obtain ⟨d, hd⟩ : ∃ d, y % 4294967296 = d := ⟨_, rfl⟩
  have hh := wd.hi_halves x y x0 x1 y0 y1 a b c d ha hb hc hd
  obtain ⟨p0, p1, p2, p3, p4, p5, p6, p7, p8, p9, p10⟩ := wd_hi_eq x y a b c d hh
  obtain ⟨a0, a1, b0, b1, c0, c1, d0, d1, -⟩ := hh
  have p8' : a * c + (a * d + b * d / 4294967296) / 4294967296 + ((a * d + b * d / 4294967296) % 4294967296 + b * c) / 4294967296 < 18446744073709551616 := by omega
  have hv := bl.hid p8
  clear p8 p9 p10
  go_enter Try.func59, Try.ntmps59
  go_wp2
  go_ret
  exact ⟨bl.ret1 (bl.int_eq (by rw [← hv.out]; omega)), rfl⟩
theorem rbelow_yes (x : Int) (w : World) (h : 9223372036854775808 ≤ x) : Calls Try.prog 60 #[.int .u64 x] w fun e w' => e = .returned (.bool true) ∧ w = w' := by
  go_enter Try.func60, Try.ntmps60
  go_wp2
  go_ret
  exact ⟨rfl, rfl⟩
theorem rbelow_no (x : Int) (w : World) (h : x < 9223372036854775808) : Calls Try.prog 60 #[.int .u64 x] w fun e w' => e = .returned (.bool false) ∧ w = w' := by
  go_enter Try.func60, Try.ntmps60
  go_wp2
  go_ret
  exact ⟨bl.ret1 (bl.bool_eq (decide_eq_false (by omega))), rfl⟩
theorem rminus_any (x : Int) (w : World) : Calls Try.prog 61 #[.int .u64 x] w fun e w' => e = .returned (.int .u64 (-x % 18446744073709551616)) ∧ w = w' := by
  go_enter Try.func61, Try.ntmps61
  go_wp2
  go_ret
  exact ⟨bl.ret1 (bl.int_eq (by simp [IntKind.wrap_u64])), rfl⟩
theorem rbit_any (b : Bool) (w : World) : Calls Try.prog 63 #[.bool b] w fun e w' => e = .returned (.int .u64 (wd.bit b)) ∧ w = w' := by
  cases b
  · go_enter Try.func63, Try.ntmps63
    go_wp2
    go_ret
    exact ⟨rfl, rfl⟩
  · go_enter Try.func63, Try.ntmps63
    go_wp2
    go_ret
    exact ⟨rfl, rfl⟩

theorem rproduct4 (x y : Int) (w : World) (x0 : 0 ≤ x) (x1 : x < 18446744073709551616) (y0 : 0 ≤ y) (y1 : y < 18446744073709551616) : Calls Try.prog 34 #[.int .i64 4, .int .u64 x, .int .u64 y] w fun e w' => e = .returned (.int .u64 (wd.mulh x y true true)) ∧ w = w' := by
  have hb := wd_hi_bd x y x0 x1 y0 y1
  by_cases gx : 9223372036854775808 ≤ x
  · by_cases gy : 9223372036854775808 ≤ y
    · go_enter Try.func34, Try.ntmps34
      go_wp2_with fail
      refine (rhigh_any x y _ x0 x1 y0 y1).mono ?_
      rintro e w' ⟨rfl, rfl⟩
      go_wp2_with fail
      refine (rbelow_yes x _ gx).mono ?_
      rintro e w' ⟨rfl, rfl⟩
      go_wp2_with fail
      refine (rbelow_yes y _ gy).mono ?_
      rintro e w' ⟨rfl, rfl⟩
      go_wp2
      go_ret
      exact ⟨bl.ret1 (bl.int_eq (by (try simp only [IntKind.wrap_u64]); simp only [wd.mulh, wd.off, true_and]; (repeat' split) <;> omega)), rfl⟩
    · go_enter Try.func34, Try.ntmps34
      go_wp2_with fail
      refine (rhigh_any x y _ x0 x1 y0 y1).mono ?_
      rintro e w' ⟨rfl, rfl⟩
      go_wp2_with fail
      refine (rbelow_yes x _ gx).mono ?_
      rintro e w' ⟨rfl, rfl⟩
      go_wp2_with fail
      refine (rbelow_no y _ (by omega)).mono ?_
      rintro e w' ⟨rfl, rfl⟩
      go_wp2
      go_ret
      exact ⟨bl.ret1 (bl.int_eq (by (try simp only [IntKind.wrap_u64]); simp only [wd.mulh, wd.off, true_and]; (repeat' split) <;> omega)), rfl⟩
  · by_cases gy : 9223372036854775808 ≤ y
    · go_enter Try.func34, Try.ntmps34
      go_wp2_with fail
      refine (rhigh_any x y _ x0 x1 y0 y1).mono ?_
      rintro e w' ⟨rfl, rfl⟩
      go_wp2_with fail
      refine (rbelow_no x _ (by omega)).mono ?_
      rintro e w' ⟨rfl, rfl⟩
      go_wp2_with fail
      refine (rbelow_yes y _ gy).mono ?_
      rintro e w' ⟨rfl, rfl⟩
      go_wp2
      go_ret
      exact ⟨bl.ret1 (bl.int_eq (by (try simp only [IntKind.wrap_u64]); simp only [wd.mulh, wd.off, true_and]; (repeat' split) <;> omega)), rfl⟩
    · go_enter Try.func34, Try.ntmps34
      go_wp2_with fail
      refine (rhigh_any x y _ x0 x1 y0 y1).mono ?_
      rintro e w' ⟨rfl, rfl⟩
      go_wp2_with fail
      refine (rbelow_no x _ (by omega)).mono ?_
      rintro e w' ⟨rfl, rfl⟩
      go_wp2_with fail
      refine (rbelow_no y _ (by omega)).mono ?_
      rintro e w' ⟨rfl, rfl⟩
      go_wp2
      go_ret
      exact ⟨bl.ret1 (bl.int_eq (by (try simp only [IntKind.wrap_u64]); simp only [wd.mulh, wd.off, true_and]; (repeat' split) <;> omega)), rfl⟩
theorem rproduct5 (x y : Int) (w : World) (x0 : 0 ≤ x) (x1 : x < 18446744073709551616) (y0 : 0 ≤ y) (y1 : y < 18446744073709551616) : Calls Try.prog 34 #[.int .i64 5, .int .u64 x, .int .u64 y] w fun e w' => e = .returned (.int .u64 (wd.mulh x y false false)) ∧ w = w' := by
  have hb := wd_hi_bd x y x0 x1 y0 y1
  go_enter Try.func34, Try.ntmps34
  go_wp2_with fail
  refine (rhigh_any x y _ x0 x1 y0 y1).mono ?_
  rintro e w' ⟨rfl, rfl⟩
  go_wp2
  go_ret
  exact ⟨bl.ret1 (bl.int_eq (by (try simp only [IntKind.wrap_u64]); simp only [wd.mulh, wd.off, Bool.false_eq_true, false_and, if_false]; omega)), rfl⟩
theorem rproduct6 (x y : Int) (w : World) (x0 : 0 ≤ x) (x1 : x < 18446744073709551616) (y0 : 0 ≤ y) (y1 : y < 18446744073709551616) : Calls Try.prog 34 #[.int .i64 6, .int .u64 x, .int .u64 y] w fun e w' => e = .returned (.int .u64 (wd.mulh x y true false)) ∧ w = w' := by
  have hb := wd_hi_bd x y x0 x1 y0 y1
  by_cases gx : 9223372036854775808 ≤ x
  · go_enter Try.func34, Try.ntmps34
    go_wp2_with fail
    refine (rhigh_any x y _ x0 x1 y0 y1).mono ?_
    rintro e w' ⟨rfl, rfl⟩
    go_wp2_with fail
    refine (rbelow_yes x _ gx).mono ?_
    rintro e w' ⟨rfl, rfl⟩
    go_wp2
    go_ret
    exact ⟨bl.ret1 (bl.int_eq (by (try simp only [IntKind.wrap_u64]); simp only [wd.mulh, wd.off, true_and, Bool.false_eq_true, false_and, if_false]; (repeat' split) <;> omega)), rfl⟩
  · go_enter Try.func34, Try.ntmps34
    go_wp2_with fail
    refine (rhigh_any x y _ x0 x1 y0 y1).mono ?_
    rintro e w' ⟨rfl, rfl⟩
    go_wp2_with fail
    refine (rbelow_no x _ (by omega)).mono ?_
    rintro e w' ⟨rfl, rfl⟩
    go_wp2
    go_ret
    exact ⟨bl.ret1 (bl.int_eq (by (try simp only [IntKind.wrap_u64]); simp only [wd.mulh, wd.off, true_and, Bool.false_eq_true, false_and, if_false]; (repeat' split) <;> omega)), rfl⟩
theorem rdivide7 (x y : Int) (w : World) (x0 : 0 ≤ x) (x1 : x < 18446744073709551616) (y0 : 0 ≤ y) (y1 : y < 18446744073709551616) : Calls Try.prog 35 #[.int .i64 7, .int .u64 x, .int .u64 y] w fun e w' => e = .returned (.int .u64 (wd.divS x y)) ∧ w = w' := by
  by_cases hy : y = 0
  · subst hy
    go_enter Try.func35, Try.ntmps35
    go_wp2
    go_ret
    exact ⟨rfl, rfl⟩
  · have hy0 : (y == 0) = false := by simpa using hy
    have HY := bl.hid hy
    have y2 : 1 ≤ y := by omega
    clear hy
    rcases wd.wrap64_cases x x0 x1 with ⟨gx, ex⟩ | ⟨gx, ex⟩
    · have EX := bl.hid ex
      clear ex
      rcases wd.wrap64_cases y y0 y1 with ⟨gy, ey⟩ | ⟨gy, ey⟩
      · have EY := bl.hid ey
        clear ey
        have q1 : 0 ≤ (x) / (y) := Int.ediv_nonneg (by omega) (by omega)
        have q2 : (x) / (y) ≤ x := Int.ediv_le_self _ (by omega)
        have q3 : 0 ≤ (x) % (y) := Int.emod_nonneg _ (by omega)
        have q4 : (x) % (y) < y := Int.emod_lt_of_pos _ (by omega)
        go_enter Try.func35, Try.ntmps35
        go_wp2_with fail
        refine (rbelow_no x _ gx).mono ?_
        rintro e w' ⟨rfl, rfl⟩
        go_wp2_with fail
        refine (rbelow_no y _ gy).mono ?_
        rintro e w' ⟨rfl, rfl⟩
        go_wp2_with fail
        refine (rbelow_no x _ gx).mono ?_
        rintro e w' ⟨rfl, rfl⟩
        go_wp2_with fail
        refine (rbelow_no y _ gy).mono ?_
        rintro e w' ⟨rfl, rfl⟩
        go_wp2
        go_ret
        exact ⟨bl.ret1 (bl.int_eq (by rw [wd.divS, if_neg HY.out, show wrap64 x = x by have := EX.out; omega, show wrap64 y = y by have := EY.out; omega, tdiv_pp _ _ (by omega)]; try omega)), rfl⟩
      · have EY := bl.hid ey
        clear ey
        have my : -y % 18446744073709551616 = 18446744073709551616 - y := by omega
        have q1 : 0 ≤ (x) / (18446744073709551616 - y) := Int.ediv_nonneg (by omega) (by omega)
        have q2 : (x) / (18446744073709551616 - y) ≤ x := Int.ediv_le_self _ (by omega)
        have q3 : 0 ≤ (x) % (18446744073709551616 - y) := Int.emod_nonneg _ (by omega)
        have q4 : (x) % (18446744073709551616 - y) < 18446744073709551616 - y := Int.emod_lt_of_pos _ (by omega)
        go_enter Try.func35, Try.ntmps35
        go_wp2_with fail
        refine (rbelow_no x _ gx).mono ?_
        rintro e w' ⟨rfl, rfl⟩
        go_wp2_with fail
        refine (rbelow_yes y _ gy).mono ?_
        rintro e w' ⟨rfl, rfl⟩
        go_wp2_with fail
        refine (rminus_any y _).mono ?_
        rw [my]
        rintro e w' ⟨rfl, rfl⟩
        go_wp2_with fail
        refine (rbelow_no x _ gx).mono ?_
        rintro e w' ⟨rfl, rfl⟩
        go_wp2_with fail
        refine (rbelow_yes y _ gy).mono ?_
        rintro e w' ⟨rfl, rfl⟩
        go_wp2_with fail
        refine (rminus_any _ _).mono ?_
        rintro e w' ⟨rfl, rfl⟩
        go_wp2
        go_ret
        exact ⟨bl.ret1 (bl.int_eq (by rw [wd.divS, if_neg HY.out, show wrap64 x = x by have := EX.out; omega, show wrap64 y = -(18446744073709551616 - y) by have := EY.out; omega, tdiv_pn _ _ (by omega)]; try omega)), rfl⟩
    · have EX := bl.hid ex
      clear ex
      rcases wd.wrap64_cases y y0 y1 with ⟨gy, ey⟩ | ⟨gy, ey⟩
      · have EY := bl.hid ey
        clear ey
        have mx : -x % 18446744073709551616 = 18446744073709551616 - x := by omega
        have q1 : 0 ≤ (18446744073709551616 - x) / (y) := Int.ediv_nonneg (by omega) (by omega)
        have q2 : (18446744073709551616 - x) / (y) ≤ 18446744073709551616 - x := Int.ediv_le_self _ (by omega)
        have q3 : 0 ≤ (18446744073709551616 - x) % (y) := Int.emod_nonneg _ (by omega)
        have q4 : (18446744073709551616 - x) % (y) < y := Int.emod_lt_of_pos _ (by omega)
        go_enter Try.func35, Try.ntmps35
        go_wp2_with fail
        refine (rbelow_yes x _ gx).mono ?_
        rintro e w' ⟨rfl, rfl⟩
        go_wp2_with fail
        refine (rminus_any x _).mono ?_
        rw [mx]
        rintro e w' ⟨rfl, rfl⟩
        go_wp2_with fail
        refine (rbelow_no y _ gy).mono ?_
        rintro e w' ⟨rfl, rfl⟩
        go_wp2_with fail
        refine (rbelow_yes x _ gx).mono ?_
        rintro e w' ⟨rfl, rfl⟩
        go_wp2_with fail
        refine (rbelow_no y _ gy).mono ?_
        rintro e w' ⟨rfl, rfl⟩
        go_wp2_with fail
        refine (rminus_any _ _).mono ?_
        rintro e w' ⟨rfl, rfl⟩
        go_wp2
        go_ret
        exact ⟨bl.ret1 (bl.int_eq (by rw [wd.divS, if_neg HY.out, show wrap64 x = -(18446744073709551616 - x) by have := EX.out; omega, show wrap64 y = y by have := EY.out; omega, tdiv_np _ _ (by omega)]; try omega)), rfl⟩
      · have EY := bl.hid ey
        clear ey
        have mx : -x % 18446744073709551616 = 18446744073709551616 - x := by omega
        have my : -y % 18446744073709551616 = 18446744073709551616 - y := by omega
        have q1 : 0 ≤ (18446744073709551616 - x) / (18446744073709551616 - y) := Int.ediv_nonneg (by omega) (by omega)
        have q2 : (18446744073709551616 - x) / (18446744073709551616 - y) ≤ 18446744073709551616 - x := Int.ediv_le_self _ (by omega)
        have q3 : 0 ≤ (18446744073709551616 - x) % (18446744073709551616 - y) := Int.emod_nonneg _ (by omega)
        have q4 : (18446744073709551616 - x) % (18446744073709551616 - y) < 18446744073709551616 - y := Int.emod_lt_of_pos _ (by omega)
        go_enter Try.func35, Try.ntmps35
        go_wp2_with fail
        refine (rbelow_yes x _ gx).mono ?_
        rintro e w' ⟨rfl, rfl⟩
        go_wp2_with fail
        refine (rminus_any x _).mono ?_
        rw [mx]
        rintro e w' ⟨rfl, rfl⟩
        go_wp2_with fail
        refine (rbelow_yes y _ gy).mono ?_
        rintro e w' ⟨rfl, rfl⟩
        go_wp2_with fail
        refine (rminus_any y _).mono ?_
        rw [my]
        rintro e w' ⟨rfl, rfl⟩
        go_wp2_with fail
        refine (rbelow_yes x _ gx).mono ?_
        rintro e w' ⟨rfl, rfl⟩
        go_wp2_with fail
        refine (rbelow_yes y _ gy).mono ?_
        rintro e w' ⟨rfl, rfl⟩
        go_wp2
        go_ret
        exact ⟨bl.ret1 (bl.int_eq (by rw [wd.divS, if_neg HY.out, show wrap64 x = -(18446744073709551616 - x) by have := EX.out; omega, show wrap64 y = -(18446744073709551616 - y) by have := EY.out; omega, tdiv_nn _ _ (by omega)]; try omega)), rfl⟩
theorem rdivide9 (x y : Int) (w : World) (x0 : 0 ≤ x) (x1 : x < 18446744073709551616) (y0 : 0 ≤ y) (y1 : y < 18446744073709551616) : Calls Try.prog 35 #[.int .i64 9, .int .u64 x, .int .u64 y] w fun e w' => e = .returned (.int .u64 (wd.remS x y)) ∧ w = w' := by
  by_cases hy : y = 0
  · subst hy
    go_enter Try.func35, Try.ntmps35
    go_wp2
    go_ret
    exact ⟨rfl, rfl⟩
  · have hy0 : (y == 0) = false := by simpa using hy
    have HY := bl.hid hy
    have y2 : 1 ≤ y := by omega
    clear hy
    rcases wd.wrap64_cases x x0 x1 with ⟨gx, ex⟩ | ⟨gx, ex⟩
    · have EX := bl.hid ex
      clear ex
      rcases wd.wrap64_cases y y0 y1 with ⟨gy, ey⟩ | ⟨gy, ey⟩
      · have EY := bl.hid ey
        clear ey
        have q1 : 0 ≤ (x) / (y) := Int.ediv_nonneg (by omega) (by omega)
        have q2 : (x) / (y) ≤ x := Int.ediv_le_self _ (by omega)
        have q3 : 0 ≤ (x) % (y) := Int.emod_nonneg _ (by omega)
        have q4 : (x) % (y) < y := Int.emod_lt_of_pos _ (by omega)
        go_enter Try.func35, Try.ntmps35
        go_wp2_with fail
        refine (rbelow_no x _ gx).mono ?_
        rintro e w' ⟨rfl, rfl⟩
        go_wp2_with fail
        refine (rbelow_no y _ gy).mono ?_
        rintro e w' ⟨rfl, rfl⟩
        go_wp2_with fail
        refine (rbelow_no x _ gx).mono ?_
        rintro e w' ⟨rfl, rfl⟩
        go_wp2
        go_ret
        exact ⟨bl.ret1 (bl.int_eq (by rw [wd.remS, if_neg HY.out, show wrap64 x = x by have := EX.out; omega, show wrap64 y = y by have := EY.out; omega, tmod_pp _ _ (by omega)]; try omega)), rfl⟩
      · have EY := bl.hid ey
        clear ey
        have my : -y % 18446744073709551616 = 18446744073709551616 - y := by omega
        have q1 : 0 ≤ (x) / (18446744073709551616 - y) := Int.ediv_nonneg (by omega) (by omega)
        have q2 : (x) / (18446744073709551616 - y) ≤ x := Int.ediv_le_self _ (by omega)
        have q3 : 0 ≤ (x) % (18446744073709551616 - y) := Int.emod_nonneg _ (by omega)
        have q4 : (x) % (18446744073709551616 - y) < 18446744073709551616 - y := Int.emod_lt_of_pos _ (by omega)
        go_enter Try.func35, Try.ntmps35
        go_wp2_with fail
        refine (rbelow_no x _ gx).mono ?_
        rintro e w' ⟨rfl, rfl⟩
        go_wp2_with fail
        refine (rbelow_yes y _ gy).mono ?_
        rintro e w' ⟨rfl, rfl⟩
        go_wp2_with fail
        refine (rminus_any y _).mono ?_
        rw [my]
        rintro e w' ⟨rfl, rfl⟩
        go_wp2_with fail
        refine (rbelow_no x _ gx).mono ?_
        rintro e w' ⟨rfl, rfl⟩
        go_wp2
        go_ret
        exact ⟨bl.ret1 (bl.int_eq (by rw [wd.remS, if_neg HY.out, show wrap64 x = x by have := EX.out; omega, show wrap64 y = -(18446744073709551616 - y) by have := EY.out; omega, tmod_pn _ _ (by omega)]; try omega)), rfl⟩
    · have EX := bl.hid ex
      clear ex
      rcases wd.wrap64_cases y y0 y1 with ⟨gy, ey⟩ | ⟨gy, ey⟩
      · have EY := bl.hid ey
        clear ey
        have mx : -x % 18446744073709551616 = 18446744073709551616 - x := by omega
        have q1 : 0 ≤ (18446744073709551616 - x) / (y) := Int.ediv_nonneg (by omega) (by omega)
        have q2 : (18446744073709551616 - x) / (y) ≤ 18446744073709551616 - x := Int.ediv_le_self _ (by omega)
        have q3 : 0 ≤ (18446744073709551616 - x) % (y) := Int.emod_nonneg _ (by omega)
        have q4 : (18446744073709551616 - x) % (y) < y := Int.emod_lt_of_pos _ (by omega)
        go_enter Try.func35, Try.ntmps35
        go_wp2_with fail
        refine (rbelow_yes x _ gx).mono ?_
        rintro e w' ⟨rfl, rfl⟩
        go_wp2_with fail
        refine (rminus_any x _).mono ?_
        rw [mx]
        rintro e w' ⟨rfl, rfl⟩
        go_wp2_with fail
        refine (rbelow_no y _ gy).mono ?_
        rintro e w' ⟨rfl, rfl⟩
        go_wp2_with fail
        refine (rbelow_yes x _ gx).mono ?_
        rintro e w' ⟨rfl, rfl⟩
        go_wp2_with fail
        refine (rminus_any _ _).mono ?_
        rintro e w' ⟨rfl, rfl⟩
        go_wp2
        go_ret
        exact ⟨bl.ret1 (bl.int_eq (by rw [wd.remS, if_neg HY.out, show wrap64 x = -(18446744073709551616 - x) by have := EX.out; omega, show wrap64 y = y by have := EY.out; omega, tmod_np _ _ (by omega)]; try omega)), rfl⟩
      · have EY := bl.hid ey
        clear ey
        have mx : -x % 18446744073709551616 = 18446744073709551616 - x := by omega
        have my : -y % 18446744073709551616 = 18446744073709551616 - y := by omega
        have q1 : 0 ≤ (18446744073709551616 - x) / (18446744073709551616 - y) := Int.ediv_nonneg (by omega) (by omega)
        have q2 : (18446744073709551616 - x) / (18446744073709551616 - y) ≤ 18446744073709551616 - x := Int.ediv_le_self _ (by omega)
        have q3 : 0 ≤ (18446744073709551616 - x) % (18446744073709551616 - y) := Int.emod_nonneg _ (by omega)
        have q4 : (18446744073709551616 - x) % (18446744073709551616 - y) < 18446744073709551616 - y := Int.emod_lt_of_pos _ (by omega)
        go_enter Try.func35, Try.ntmps35
        go_wp2_with fail
        refine (rbelow_yes x _ gx).mono ?_
        rintro e w' ⟨rfl, rfl⟩
        go_wp2_with fail
        refine (rminus_any x _).mono ?_
        rw [mx]
        rintro e w' ⟨rfl, rfl⟩
        go_wp2_with fail
        refine (rbelow_yes y _ gy).mono ?_
        rintro e w' ⟨rfl, rfl⟩
        go_wp2_with fail
        refine (rminus_any y _).mono ?_
        rw [my]
        rintro e w' ⟨rfl, rfl⟩
        go_wp2_with fail
        refine (rbelow_yes x _ gx).mono ?_
        rintro e w' ⟨rfl, rfl⟩
        go_wp2_with fail
        refine (rminus_any _ _).mono ?_
        rintro e w' ⟨rfl, rfl⟩
        go_wp2
        go_ret
        exact ⟨bl.ret1 (bl.int_eq (by rw [wd.remS, if_neg HY.out, show wrap64 x = -(18446744073709551616 - x) by have := EX.out; omega, show wrap64 y = -(18446744073709551616 - y) by have := EY.out; omega, tmod_nn _ _ (by omega)]; try omega)), rfl⟩
theorem rshift14 (x y : Int) (w : World) (x0 : 0 ≤ x) (x1 : x < 18446744073709551616) (y0 : 0 ≤ y) (y1 : y < 18446744073709551616) : Calls Try.prog 62 #[.int .i64 14, .int .u64 x, .int .u64 y] w fun e w' => e = .returned (.int .u64 (wd.shl x (y % 64))) ∧ w = w' := by
  have m0 : 0 ≤ y % 64 := by omega
  have m1 : y % 64 < 64 := by omega
  go_enter Try.func62, Try.ntmps62
  go_wp2
  go_loop [1, 7] (fun z n => ∃ k : Nat, (k : Int) ≤ y % 64 ∧ z = .int .u64 (wd.shl x k) ∧ n = .int .u64 (y % 64 - k)) (fun _ n => (intOf n).toNat)
  case atStart => exact ⟨0, m0, bl.int_eq (shl_zero x x0 x1).symm, bl.int_eq (by simp)⟩
  case round =>
    obtain ⟨k, hk, rfl, rfl⟩ := hrel
    have z0 : 0 ≤ wd.shl x k := Int.emod_nonneg _ (by decide)
    have z1 : wd.shl x k < 18446744073709551616 := Int.emod_lt_of_pos _ (by decide)
    by_cases hlt : (k : Int) < y % 64
    · go_wp2
      go_round
      case rel => exact ⟨k + 1, by omega, bl.int_eq (by rw [Int.natCast_add, Int.natCast_one]; rw [IntKind.wrap_u64, shl_succ]), bl.int_eq (by omega)⟩
      case measure => simp [intOf]; omega
    · go_wp2
      go_ret
      exact ⟨bl.ret1 (bl.int_eq (by rw [show (k : Int) = y % 64 by omega])), rfl⟩
theorem rshift15 (x y : Int) (w : World) (x0 : 0 ≤ x) (x1 : x < 18446744073709551616) (y0 : 0 ≤ y) (y1 : y < 18446744073709551616) : Calls Try.prog 62 #[.int .i64 15, .int .u64 x, .int .u64 y] w fun e w' => e = .returned (.int .u64 (wd.shr x (y % 64))) ∧ w = w' := by
  have m0 : 0 ≤ y % 64 := by omega
  have m1 : y % 64 < 64 := by omega
  go_enter Try.func62, Try.ntmps62
  go_wp2
  go_loop [1, 7] (fun z n => ∃ k : Nat, (k : Int) ≤ y % 64 ∧ z = .int .u64 (wd.shr x k) ∧ n = .int .u64 (y % 64 - k)) (fun _ n => (intOf n).toNat)
  case atStart => exact ⟨0, m0, bl.int_eq (shr_zero x).symm, bl.int_eq (by simp)⟩
  case round =>
    obtain ⟨k, hk, rfl, rfl⟩ := hrel
    have z0 := (shr_bd x k x0 x1).1
    have z1 := (shr_bd x k x0 x1).2
    by_cases hlt : (k : Int) < y % 64
    · go_wp2
      go_round
      case rel => exact ⟨k + 1, by omega, bl.int_eq (by rw [Int.natCast_add, Int.natCast_one]; rw [shr_succ]), bl.int_eq (by omega)⟩
      case measure => simp [intOf]; omega
    · go_wp2
      go_ret
      exact ⟨bl.ret1 (bl.int_eq (by rw [show (k : Int) = y % 64 by omega])), rfl⟩
theorem rshift16 (x y : Int) (w : World) (x0 : 0 ≤ x) (x1 : x < 18446744073709551616) (y0 : 0 ≤ y) (y1 : y < 18446744073709551616) : Calls Try.prog 62 #[.int .i64 16, .int .u64 x, .int .u64 y] w fun e w' => e = .returned (.int .u64 (wd.sar x (y % 64))) ∧ w = w' := by
  have m0 : 0 ≤ y % 64 := by omega
  have m1 : y % 64 < 64 := by omega
  go_enter Try.func62, Try.ntmps62
  go_wp2
  go_loop [1, 7] (fun z n => ∃ k : Nat, (k : Int) ≤ y % 64 ∧ z = .int .u64 (wd.sar x k) ∧ n = .int .u64 (y % 64 - k)) (fun _ n => (intOf n).toNat)
  case atStart => exact ⟨0, m0, bl.int_eq (sar_zero x x0 x1).symm, bl.int_eq (by simp)⟩
  case round =>
    obtain ⟨k, hk, rfl, rfl⟩ := hrel
    have z0 : 0 ≤ wd.sar x k := Int.emod_nonneg _ (by decide)
    have z1 : wd.sar x k < 18446744073709551616 := Int.emod_lt_of_pos _ (by decide)
    by_cases hlt : (k : Int) < y % 64
    · go_wp2
      go_round
      case rel => exact ⟨k + 1, by omega, bl.int_eq (by rw [Int.natCast_add, Int.natCast_one]; (try rw [IntKind.wrap_u64]); rw [sar_succ]; omega), bl.int_eq (by omega)⟩
      case measure => simp [intOf]; omega
    · go_wp2
      go_ret
      exact ⟨bl.ret1 (bl.int_eq (by rw [show (k : Int) = y % 64 by omega])), rfl⟩
end Go.Proofs.Ytimchannmigioaa
