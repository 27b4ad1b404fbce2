/- The word layer's Do, function by function, each by a contract. -/
import Derived.Test.YtimchannmigioaaRows
import Derived.Test.YtimchannmigioaaWPlain
import Derived.Test.YtimchannmigioaaKit
import Derived.Handy
namespace Go.Proofs.Ytimchannmigioaa
open Go.RowKit
set_option linter.unusedVariables false

theorem wd_hi_eq (x y a b c d : Int) (h : 0 ≤ a ∧ a < 4294967296 ∧ 0 ≤ b ∧ b < 4294967296 ∧ 0 ≤ c ∧ c < 4294967296 ∧ 0 ≤ d ∧ d < 4294967296 ∧ x * y = (a * c) * 18446744073709551616 + (a * d + b * c) * 4294967296 + b * d) :
    0 ≤ a * c ∧ a * c ≤ 18446744065119617025 ∧ 0 ≤ a * d ∧ a * d ≤ 18446744065119617025 ∧ 0 ≤ b * c ∧ b * c ≤ 18446744065119617025 ∧ 0 ≤ b * d ∧ b * d ≤ 18446744065119617025 ∧
    a * c + (a * d + b * d / 4294967296) / 4294967296 + ((a * d + b * d / 4294967296) % 4294967296 + b * c) / 4294967296 = wd.hi x y ∧ 0 ≤ wd.hi x y ∧ wd.hi x y < 18446744073709551616 := by
  obtain ⟨a0, a1, b0, b1, c0, c1, d0, d1, hp⟩ := h
  have p1 := wd.prod_bd a c a0 a1 c0 c1
  have p2 := wd.prod_bd a d a0 a1 d0 d1
  have p3 := wd.prod_bd b c b0 b1 c0 c1
  have p4 := wd.prod_bd b d b0 b1 d0 d1
  unfold wd.hi
  rw [hp]
  have q1 : a * c ≤ 4294967295 * 4294967295 := p1.2
  generalize a * c = P at *
  generalize a * d = Q at *
  generalize b * c = R at *
  generalize b * d = S at *
  omega
theorem wd_hi_bd (x y : Int) (x0 : 0 ≤ x) (x1 : x < 18446744073709551616) (y0 : 0 ≤ y) (y1 : y < 18446744073709551616) : 0 ≤ wd.hi x y ∧ wd.hi x y < 18446744073709551616 :=
  (wd_hi_eq x y _ _ _ _ (wd.hi_halves x y x0 x1 y0 y1 _ _ _ _ rfl rfl rfl rfl)).2.2.2.2.2.2.2.2.2
theorem mul64_any (x y : Int) (w : World) (x0 : 0 ≤ x) (x1 : x < 18446744073709551616) (y0 : 0 ≤ y) (y1 : y < 18446744073709551616) : Calls Try.prog 64 #[.int .u64 x, .int .u64 y] w fun e w' => e = .returned (.tuple #[.int .u64 (wd.hi x y), .int .u64 (x * y % 18446744073709551616)]) ∧ w = w' := by
  obtain ⟨a, ha⟩ : ∃ a, x / 4294967296 = a := ⟨_, rfl⟩
  obtain ⟨b, hb⟩ : ∃ b, x % 4294967296 = b := ⟨_, rfl⟩
  obtain ⟨c, hc⟩ : ∃ c, y / 4294967296 = c := ⟨_, rfl⟩
  obtain ⟨d, hd⟩ : ∃ d, y % 4294967296 = d := ⟨_, rfl⟩
  have hh := wd.hi_halves x y x0 x1 y0 y1 a b c d ha hb hc hd
  obtain ⟨p0, p1, p2, p3, p4, p5, p6, p7, p8, p9, p10⟩ := wd_hi_eq x y a b c d hh
  obtain ⟨a0, a1, b0, b1, c0, c1, d0, d1, -⟩ := hh
  have m1 : bits .and .u64 x 4294967295 = b := by rw [bl.u64_and_mask 32 _ _ (by decide) (by decide) x0 x1]; exact hb
  have m2 : bits .and .u64 y 4294967295 = d := by rw [bl.u64_and_mask 32 _ _ (by decide) (by decide) y0 y1]; exact hd
  have m3 : bits .and .u64 (a * d + b * d / 4294967296) 4294967295 = (a * d + b * d / 4294967296) % 4294967296 := bl.u64_and_mask 32 _ _ (by decide) (by decide) (by omega) (by omega)
  have p8' : a * c + (a * d + b * d / 4294967296) / 4294967296 + ((a * d + b * d / 4294967296) % 4294967296 + b * c) / 4294967296 < 18446744073709551616 := by omega
  have hv := bl.hid p8
  clear hb hd p8 p9 p10
  go_enter Try.func64, Try.ntmps64
  go_wp2
  go_ret2
  exact ⟨bl.ret2 (bl.int_eq hv.out) (bl.int_eq (IntKind.wrap_u64 _)), rfl⟩
theorem mulh_ss (x y : Int) (w : World) (x0 : 0 ≤ x) (x1 : x < 18446744073709551616) (y0 : 0 ≤ y) (y1 : y < 18446744073709551616) : Calls Try.prog 41 #[.int .u64 x, .int .u64 y, .bool true, .bool true] w fun e w' => e = .returned (.int .u64 (wd.mulh x y true true)) ∧ w = w' := by
  have hb := wd_hi_bd x y x0 x1 y0 y1
  have cx := wd.wrap64_cases x x0 x1
  have cy := wd.wrap64_cases y y0 y1
  rcases cx with ⟨gx, ex⟩ | ⟨gx, ex⟩
  · have qx : ¬ wrap64 x < 0 := by omega
    clear ex
    rcases cy with ⟨gy, ey⟩ | ⟨gy, ey⟩
    · have qy : ¬ wrap64 y < 0 := by omega
      clear ey
      go_enter Try.func41, Try.ntmps41
      go_wp2_with fail
      refine (mul64_any x y _ x0 x1 y0 y1).mono ?_
      rintro e w' ⟨rfl, rfl⟩
      go_wp2
      go_ret
      exact ⟨bl.ret1 (bl.int_eq (by (try simp only [IntKind.wrap_u64]); simp only [wd.mulh, wd.off, true_and]; (repeat' split) <;> omega)), rfl⟩
    · have qy : wrap64 y < 0 := by omega
      clear ey
      go_enter Try.func41, Try.ntmps41
      go_wp2_with fail
      refine (mul64_any x y _ x0 x1 y0 y1).mono ?_
      rintro e w' ⟨rfl, rfl⟩
      go_wp2
      go_ret
      exact ⟨bl.ret1 (bl.int_eq (by (try simp only [IntKind.wrap_u64]); simp only [wd.mulh, wd.off, true_and]; (repeat' split) <;> omega)), rfl⟩
  · have qx : wrap64 x < 0 := by omega
    clear ex
    rcases cy with ⟨gy, ey⟩ | ⟨gy, ey⟩
    · have qy : ¬ wrap64 y < 0 := by omega
      clear ey
      go_enter Try.func41, Try.ntmps41
      go_wp2_with fail
      refine (mul64_any x y _ x0 x1 y0 y1).mono ?_
      rintro e w' ⟨rfl, rfl⟩
      go_wp2
      go_ret
      exact ⟨bl.ret1 (bl.int_eq (by (try simp only [IntKind.wrap_u64]); simp only [wd.mulh, wd.off, true_and]; (repeat' split) <;> omega)), rfl⟩
    · have qy : wrap64 y < 0 := by omega
      clear ey
      go_enter Try.func41, Try.ntmps41
      go_wp2_with fail
      refine (mul64_any x y _ x0 x1 y0 y1).mono ?_
      rintro e w' ⟨rfl, rfl⟩
      go_wp2
      go_ret
      exact ⟨bl.ret1 (bl.int_eq (by (try simp only [IntKind.wrap_u64]); simp only [wd.mulh, wd.off, true_and]; (repeat' split) <;> omega)), rfl⟩
theorem mulh_uu (x y : Int) (w : World) (x0 : 0 ≤ x) (x1 : x < 18446744073709551616) (y0 : 0 ≤ y) (y1 : y < 18446744073709551616) : Calls Try.prog 41 #[.int .u64 x, .int .u64 y, .bool false, .bool false] w fun e w' => e = .returned (.int .u64 (wd.mulh x y false false)) ∧ w = w' := by
  go_enter Try.func41, Try.ntmps41
  go_wp2_with fail
  refine (mul64_any x y _ x0 x1 y0 y1).mono ?_
  rintro e w' ⟨rfl, rfl⟩
  go_wp2
  go_ret
  exact ⟨bl.ret1 (bl.int_eq (by have := wd_hi_bd x y x0 x1 y0 y1; simp only [wd.mulh, wd.off, Bool.false_eq_true, false_and, if_false]; omega)), rfl⟩
theorem mulh_su (x y : Int) (w : World) (x0 : 0 ≤ x) (x1 : x < 18446744073709551616) (y0 : 0 ≤ y) (y1 : y < 18446744073709551616) : Calls Try.prog 41 #[.int .u64 x, .int .u64 y, .bool true, .bool false] w fun e w' => e = .returned (.int .u64 (wd.mulh x y true false)) ∧ w = w' := by
  have hb := wd_hi_bd x y x0 x1 y0 y1
  have cx := wd.wrap64_cases x x0 x1
  have cy := wd.wrap64_cases y y0 y1
  rcases cx with ⟨gx, ex⟩ | ⟨gx, ex⟩
  · have qx : ¬ wrap64 x < 0 := by omega
    clear ex
    go_enter Try.func41, Try.ntmps41
    go_wp2_with fail
    refine (mul64_any x y _ x0 x1 y0 y1).mono ?_
    rintro e w' ⟨rfl, rfl⟩
    go_wp2
    go_ret
    exact ⟨bl.ret1 (bl.int_eq (by (try simp only [IntKind.wrap_u64]); simp only [wd.mulh, wd.off, true_and, Bool.false_eq_true, false_and, if_false]; (repeat' split) <;> omega)), rfl⟩
  · have qx : wrap64 x < 0 := by omega
    clear ex
    go_enter Try.func41, Try.ntmps41
    go_wp2_with fail
    refine (mul64_any x y _ x0 x1 y0 y1).mono ?_
    rintro e w' ⟨rfl, rfl⟩
    go_wp2
    go_ret
    exact ⟨bl.ret1 (bl.int_eq (by (try simp only [IntKind.wrap_u64]); simp only [wd.mulh, wd.off, true_and, Bool.false_eq_true, false_and, if_false]; (repeat' split) <;> omega)), rfl⟩
end Go.Proofs.Ytimchannmigioaa
