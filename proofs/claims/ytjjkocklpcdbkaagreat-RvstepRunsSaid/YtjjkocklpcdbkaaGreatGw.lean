/- The word layer in plain Lean: words are integers from 0 to 2^64 - 1. No program in sight. The word layer's Do, function by function, each by a contract. The word layer's twenty functions and Do, each by a contract. The reference's words: its functions, each by a contract in the same plain numbers. The reference's Do, Zext, Sext and Half, and the program's Zext, Sext and Half, each by a contract. Sext and Half, the program's and the reference's, each by a contract. -/
import Derived.Test.YtjjkocklpcdbkaaGreatBits
import Derived.Test.YtjjkocklpcdbkaaGreatRows
import Derived.Test.YtjjkocklpcdbkaaGreatKit
import Derived.Handy
import Derived.Laws.EntriesVeiled
namespace Go.Proofs.YtjjkocklpcdbkaaGreat.wd
open Go.RowKit (wrap64 wrap32)

/-- the upper half of the product of both as they are -/
def hi (x y : Int) : Int := x * y / 18446744073709551616
/-- what is taken off it for a factor that is below 0 -/
def off (is : Bool) (x y : Int) : Int := if is = true ∧ 9223372036854775808 ≤ x then y else 0
def mulh (x y : Int) (sx sy : Bool) : Int := (hi x y - off sx x y - off sy y x) % 18446744073709551616
def divS (x y : Int) : Int := if y = 0 then 18446744073709551615 else (wrap64 x).tdiv (wrap64 y) % 18446744073709551616
def remS (x y : Int) : Int := if y = 0 then x else (wrap64 x).tmod (wrap64 y) % 18446744073709551616
def divU (x y : Int) : Int := if y = 0 then 18446744073709551615 else x / y
def remU (x y : Int) : Int := if y = 0 then x else x % y
def shl (x n : Int) : Int := x * 2 ^ n.toNat % 18446744073709551616
def shr (x n : Int) : Int := x / 2 ^ n.toNat
def sar (x n : Int) : Int := wrap64 x / 2 ^ n.toNat % 18446744073709551616
def bit (b : Bool) : Int := if b then 1 else 0
/-- what function fn makes of two words -/
def doV (fn x y : Int) : Int :=
  if fn = 1 then (x + y) % 18446744073709551616
  else if fn = 2 then (x - y) % 18446744073709551616
  else if fn = 3 then x * y % 18446744073709551616
  else if fn = 4 then mulh x y true true
  else if fn = 5 then mulh x y false false
  else if fn = 6 then mulh x y true false
  else if fn = 7 then divS x y
  else if fn = 8 then divU x y
  else if fn = 9 then remS x y
  else if fn = 10 then remU x y
  else if fn = 11 then bits .and .u64 x y
  else if fn = 12 then bits .or .u64 x y
  else if fn = 13 then bits .xor .u64 x y
  else if fn = 14 then shl x (y % 64)
  else if fn = 15 then shr x (y % 64)
  else if fn = 16 then sar x (y % 64)
  else if fn = 17 then bit (decide (wrap64 x < wrap64 y))
  else if fn = 18 then bit (decide (x < y))
  else if fn = 19 then bit (x == y)
  else if fn = 20 then bit (x != y)
  else 0
def doE (fn : Int) : Int := if 1 ≤ fn ∧ fn ≤ 20 then 0 else 2

/-- the low part of so many bytes -/
def zx (x n : Int) : Int := if n = 1 then x % 256 else if n = 2 then x % 65536 else if n = 4 then x % 4294967296 else if n = 8 then x else 0
/-- the word that is that, signed -/
def sx (x n : Int) : Int :=
  if n = 1 then (if 128 ≤ x % 256 then x % 256 + 18446744073709551360 else x % 256)
  else if n = 2 then (if 32768 ≤ x % 65536 then x % 65536 + 18446744073709486080 else x % 65536)
  else if n = 4 then (if 2147483648 ≤ x % 4294967296 then x % 4294967296 + 18446744069414584320 else x % 4294967296)
  else if n = 8 then x else 0
/-- is that a size -/
def sizB (n : Int) : Bool := decide (n = 1 ∨ n = 2 ∨ n = 4 ∨ n = 8)

/-- which functions there are of low halves, and what of their operands -/
def halfOk (fn : Int) : Bool := decide (fn = 1 ∨ fn = 2 ∨ fn = 3 ∨ fn = 7 ∨ fn = 8 ∨ fn = 9 ∨ fn = 10 ∨ fn = 14 ∨ fn = 15 ∨ fn = 16)
def halfX (fn x : Int) : Int := if fn = 7 ∨ fn = 9 ∨ fn = 16 then sx x 4 else zx x 4
def halfY (fn y : Int) : Int := if fn = 7 ∨ fn = 9 then sx y 4 else if fn = 14 ∨ fn = 15 ∨ fn = 16 then zx y 4 % 32 else zx y 4
def halfV (fn x y : Int) : Int := if halfOk fn then sx (doV fn (halfX fn x) (halfY fn y)) 4 else 0
def halfE (fn : Int) : Int := if halfOk fn then 0 else 2

theorem doE_of {fn : Int} (h : 1 ≤ fn ∧ fn ≤ 20) : doE fn = 0 := if_pos h
theorem doE_not {fn : Int} (h : ¬ (1 ≤ fn ∧ fn ≤ 20)) : doE fn = 2 := if_neg h
theorem doV_not {fn x y : Int} (h : ¬ (1 ≤ fn ∧ fn ≤ 20)) : doV fn x y = 0 := by
  unfold doV
  repeat (rw [if_neg (by omega)])

theorem wrap64_cases (x : Int) (x0 : 0 ≤ x) (x1 : x < 18446744073709551616) : (x < 9223372036854775808 ∧ wrap64 x = x) ∨ (9223372036854775808 ≤ x ∧ wrap64 x = x - 18446744073709551616) := by
  unfold wrap64
  omega

/-- by halves: the upper half of a product -/
theorem hi_halves (x y : Int) (x0 : 0 ≤ x) (x1 : x < 18446744073709551616) (y0 : 0 ≤ y) (y1 : y < 18446744073709551616) (a b c d : Int) (ha : x / 4294967296 = a) (hb : x % 4294967296 = b) (hc : y / 4294967296 = c) (hd : y % 4294967296 = d) :
    0 ≤ a ∧ a < 4294967296 ∧ 0 ≤ b ∧ b < 4294967296 ∧ 0 ≤ c ∧ c < 4294967296 ∧ 0 ≤ d ∧ d < 4294967296 ∧ x * y = (a * c) * 18446744073709551616 + (a * d + b * c) * 4294967296 + b * d := by
  have ex : x = a * 4294967296 + b := by omega
  have ey : y = c * 4294967296 + d := by omega
  refine ⟨by omega, by omega, by omega, by omega, by omega, by omega, by omega, by omega, ?_⟩
  rw [ex, ey]
  simp only [Int.add_mul, Int.mul_add]
  have h1 : a * 4294967296 * (c * 4294967296) = a * c * 18446744073709551616 := by
    rw [Int.mul_assoc, ← Int.mul_assoc 4294967296 c, Int.mul_comm 4294967296 c, Int.mul_assoc c, ← Int.mul_assoc a c]; rfl
  have h2 : a * 4294967296 * d = a * d * 4294967296 := by rw [Int.mul_assoc, Int.mul_comm 4294967296 d, ← Int.mul_assoc]
  have h3 : b * (c * 4294967296) = b * c * 4294967296 := by rw [← Int.mul_assoc]
  omega
theorem prod_bd (a b : Int) (a0 : 0 ≤ a) (a1 : a < 4294967296) (b0 : 0 ≤ b) (b1 : b < 4294967296) : 0 ≤ a * b ∧ a * b ≤ 18446744065119617025 :=
  ⟨Int.mul_nonneg a0 b0, Int.le_trans (Int.mul_le_mul (show a ≤ 4294967295 by omega) (show b ≤ 4294967295 by omega) b0 (by omega)) (by decide)⟩
end Go.Proofs.YtjjkocklpcdbkaaGreat.wd
namespace Go.Proofs.YtjjkocklpcdbkaaGreat
open Go.RowKit
set_option linter.unusedVariables false
set_option maxRecDepth 100000

theorem wd_hi_eq (x y a b c d : Int) (h : 0 ≤ a ∧ a < 4294967296 ∧ 0 ≤ b ∧ b < 4294967296 ∧ 0 ≤ c ∧ c < 4294967296 ∧ 0 ≤ d ∧ d < 4294967296 ∧ x * y = (a * c) * 18446744073709551616 + (a * d + b * c) * 4294967296 + b * d) :
    0 ≤ a * c ∧ a * c ≤ 18446744065119617025 ∧ 0 ≤ a * d ∧ a * d ≤ 18446744065119617025 ∧ 0 ≤ b * c ∧ b * c ≤ 18446744065119617025 ∧ 0 ≤ b * d ∧ b * d ≤ 18446744065119617025 ∧
    a * c + (a * d + b * d / 4294967296) / 4294967296 + ((a * d + b * d / 4294967296) % 4294967296 + b * c) / 4294967296 = wd.hi x y ∧ 0 ≤ wd.hi x y ∧ wd.hi x y < 18446744073709551616 := by
  obtain ⟨a0, a1, b0, b1, c0, c1, d0, d1, hp⟩ := h
  have p1 := wd.prod_bd a c a0 a1 c0 c1
  have p2 := wd.prod_bd a d a0 a1 d0 d1
  have p3 := wd.prod_bd b c b0 b1 c0 c1
  have p4 := wd.prod_bd b d b0 b1 d0 d1
  unfold wd.hi
  rw [hp]
  have q1 : a * c ≤ 4294967295 * 4294967295 := p1.2
  generalize a * c = P at *
  generalize a * d = Q at *
  generalize b * c = R at *
  generalize b * d = S at *
  omega
theorem wd_hi_bd (x y : Int) (x0 : 0 ≤ x) (x1 : x < 18446744073709551616) (y0 : 0 ≤ y) (y1 : y < 18446744073709551616) : 0 ≤ wd.hi x y ∧ wd.hi x y < 18446744073709551616 :=
  (wd_hi_eq x y _ _ _ _ (wd.hi_halves x y x0 x1 y0 y1 _ _ _ _ rfl rfl rfl rfl)).2.2.2.2.2.2.2.2.2
theorem mul64_any (x y : Int) (w : World) (x0 : 0 ≤ x) (x1 : x < 18446744073709551616) (y0 : 0 ≤ y) (y1 : y < 18446744073709551616) : Calls Tryz.prog 145 #[.int .u64 x, .int .u64 y] w fun e w' => e = .returned (.tuple #[.int .u64 (wd.hi x y), .int .u64 (x * y % 18446744073709551616)]) ∧ w = w' := by
  obtain ⟨a, ha⟩ : ∃ a, x / 4294967296 = a := ⟨_, rfl⟩
  obtain ⟨b, hb⟩ : ∃ b, x % 4294967296 = b := ⟨_, rfl⟩
  obtain ⟨c, hc⟩ : ∃ c, y / 4294967296 = c := ⟨_, rfl⟩
  obtain ⟨d, hd⟩ : ∃ d, y % 4294967296 = d := ⟨_, rfl⟩
  have hh := wd.hi_halves x y x0 x1 y0 y1 a b c d ha hb hc hd
  obtain ⟨p0, p1, p2, p3, p4, p5, p6, p7, p8, p9, p10⟩ := wd_hi_eq x y a b c d hh
  obtain ⟨a0, a1, b0, b1, c0, c1, d0, d1, -⟩ := hh
  have m1 : bits .and .u64 x 4294967295 = b := by rw [bl.u64_and_mask 32 _ _ (by decide) (by decide) x0 x1]; exact hb
  have m2 : bits .and .u64 y 4294967295 = d := by rw [bl.u64_and_mask 32 _ _ (by decide) (by decide) y0 y1]; exact hd
  have m3 : bits .and .u64 (a * d + b * d / 4294967296) 4294967295 = (a * d + b * d / 4294967296) % 4294967296 := bl.u64_and_mask 32 _ _ (by decide) (by decide) (by omega) (by omega)
  have p8' : a * c + (a * d + b * d / 4294967296) / 4294967296 + ((a * d + b * d / 4294967296) % 4294967296 + b * c) / 4294967296 < 18446744073709551616 := by omega
  have hv := bl.hid p8
  clear hb hd p8 p9 p10
  go_enter Tryz.func145, Tryz.ntmps145
  go_wp2
  go_ret2
  exact ⟨bl.ret2 (bl.int_eq hv.out) (bl.int_eq (IntKind.wrap_u64 _)), rfl⟩
theorem mulh_ss (x y : Int) (w : World) (x0 : 0 ≤ x) (x1 : x < 18446744073709551616) (y0 : 0 ≤ y) (y1 : y < 18446744073709551616) : Calls Tryz.prog 127 #[.int .u64 x, .int .u64 y, .bool true, .bool true] w fun e w' => e = .returned (.int .u64 (wd.mulh x y true true)) ∧ w = w' := by
  have hb := wd_hi_bd x y x0 x1 y0 y1
  have cx := wd.wrap64_cases x x0 x1
  have cy := wd.wrap64_cases y y0 y1
  rcases cx with ⟨gx, ex⟩ | ⟨gx, ex⟩
  · have qx : ¬ wrap64 x < 0 := by omega
    clear ex
    rcases cy with ⟨gy, ey⟩ | ⟨gy, ey⟩
    · have qy : ¬ wrap64 y < 0 := by omega
      clear ey
      go_enter Tryz.func127, Tryz.ntmps127
      go_wp2_with fail
      refine (mul64_any x y _ x0 x1 y0 y1).mono ?_
      rintro e w' ⟨rfl, rfl⟩
      go_wp2
      go_ret
      exact ⟨bl.ret1 (bl.int_eq (by (try simp only [IntKind.wrap_u64]); simp only [wd.mulh, wd.off, true_and]; (repeat' split) <;> omega)), rfl⟩
    · have qy : wrap64 y < 0 := by omega
      clear ey
      go_enter Tryz.func127, Tryz.ntmps127
      go_wp2_with fail
      refine (mul64_any x y _ x0 x1 y0 y1).mono ?_
      rintro e w' ⟨rfl, rfl⟩
      go_wp2
      go_ret
      exact ⟨bl.ret1 (bl.int_eq (by (try simp only [IntKind.wrap_u64]); simp only [wd.mulh, wd.off, true_and]; (repeat' split) <;> omega)), rfl⟩
  · have qx : wrap64 x < 0 := by omega
    clear ex
    rcases cy with ⟨gy, ey⟩ | ⟨gy, ey⟩
    · have qy : ¬ wrap64 y < 0 := by omega
      clear ey
      go_enter Tryz.func127, Tryz.ntmps127
      go_wp2_with fail
      refine (mul64_any x y _ x0 x1 y0 y1).mono ?_
      rintro e w' ⟨rfl, rfl⟩
      go_wp2
      go_ret
      exact ⟨bl.ret1 (bl.int_eq (by (try simp only [IntKind.wrap_u64]); simp only [wd.mulh, wd.off, true_and]; (repeat' split) <;> omega)), rfl⟩
    · have qy : wrap64 y < 0 := by omega
      clear ey
      go_enter Tryz.func127, Tryz.ntmps127
      go_wp2_with fail
      refine (mul64_any x y _ x0 x1 y0 y1).mono ?_
      rintro e w' ⟨rfl, rfl⟩
      go_wp2
      go_ret
      exact ⟨bl.ret1 (bl.int_eq (by (try simp only [IntKind.wrap_u64]); simp only [wd.mulh, wd.off, true_and]; (repeat' split) <;> omega)), rfl⟩
theorem mulh_uu (x y : Int) (w : World) (x0 : 0 ≤ x) (x1 : x < 18446744073709551616) (y0 : 0 ≤ y) (y1 : y < 18446744073709551616) : Calls Tryz.prog 127 #[.int .u64 x, .int .u64 y, .bool false, .bool false] w fun e w' => e = .returned (.int .u64 (wd.mulh x y false false)) ∧ w = w' := by
  go_enter Tryz.func127, Tryz.ntmps127
  go_wp2_with fail
  refine (mul64_any x y _ x0 x1 y0 y1).mono ?_
  rintro e w' ⟨rfl, rfl⟩
  go_wp2
  go_ret
  exact ⟨bl.ret1 (bl.int_eq (by have := wd_hi_bd x y x0 x1 y0 y1; simp only [wd.mulh, wd.off, Bool.false_eq_true, false_and, if_false]; omega)), rfl⟩
theorem mulh_su (x y : Int) (w : World) (x0 : 0 ≤ x) (x1 : x < 18446744073709551616) (y0 : 0 ≤ y) (y1 : y < 18446744073709551616) : Calls Tryz.prog 127 #[.int .u64 x, .int .u64 y, .bool true, .bool false] w fun e w' => e = .returned (.int .u64 (wd.mulh x y true false)) ∧ w = w' := by
  have hb := wd_hi_bd x y x0 x1 y0 y1
  have cx := wd.wrap64_cases x x0 x1
  have cy := wd.wrap64_cases y y0 y1
  rcases cx with ⟨gx, ex⟩ | ⟨gx, ex⟩
  · have qx : ¬ wrap64 x < 0 := by omega
    clear ex
    go_enter Tryz.func127, Tryz.ntmps127
    go_wp2_with fail
    refine (mul64_any x y _ x0 x1 y0 y1).mono ?_
    rintro e w' ⟨rfl, rfl⟩
    go_wp2
    go_ret
    exact ⟨bl.ret1 (bl.int_eq (by (try simp only [IntKind.wrap_u64]); simp only [wd.mulh, wd.off, true_and, Bool.false_eq_true, false_and, if_false]; (repeat' split) <;> omega)), rfl⟩
  · have qx : wrap64 x < 0 := by omega
    clear ex
    go_enter Tryz.func127, Tryz.ntmps127
    go_wp2_with fail
    refine (mul64_any x y _ x0 x1 y0 y1).mono ?_
    rintro e w' ⟨rfl, rfl⟩
    go_wp2
    go_ret
    exact ⟨bl.ret1 (bl.int_eq (by (try simp only [IntKind.wrap_u64]); simp only [wd.mulh, wd.off, true_and, Bool.false_eq_true, false_and, if_false]; (repeat' split) <;> omega)), rfl⟩
end Go.Proofs.YtjjkocklpcdbkaaGreat
namespace Go.Proofs.YtjjkocklpcdbkaaGreat
open Go.RowKit
set_option linter.unusedVariables false
set_option maxRecDepth 100000

theorem fn1 (x y : Int) (w : World) (x0 : 0 ≤ x) (x1 : x < 18446744073709551616) (y0 : 0 ≤ y) (y1 : y < 18446744073709551616) : Calls Tryz.prog 123 #[.int .u64 x, .int .u64 y] w fun e w' => e = .returned (.int .u64 ((x + y) % 18446744073709551616)) ∧ w = w' := by
  go_enter Tryz.func123, Tryz.ntmps123
  go_wp2
  go_ret
  exact ⟨bl.ret1 (bl.int_eq (IntKind.wrap_u64 _)), rfl⟩
theorem fn2 (x y : Int) (w : World) (x0 : 0 ≤ x) (x1 : x < 18446744073709551616) (y0 : 0 ≤ y) (y1 : y < 18446744073709551616) : Calls Tryz.prog 124 #[.int .u64 x, .int .u64 y] w fun e w' => e = .returned (.int .u64 ((x - y) % 18446744073709551616)) ∧ w = w' := by
  go_enter Tryz.func124, Tryz.ntmps124
  go_wp2
  go_ret
  exact ⟨bl.ret1 (bl.int_eq (IntKind.wrap_u64 _)), rfl⟩
theorem fn3 (x y : Int) (w : World) (x0 : 0 ≤ x) (x1 : x < 18446744073709551616) (y0 : 0 ≤ y) (y1 : y < 18446744073709551616) : Calls Tryz.prog 125 #[.int .u64 x, .int .u64 y] w fun e w' => e = .returned (.int .u64 (x * y % 18446744073709551616)) ∧ w = w' := by
  go_enter Tryz.func125, Tryz.ntmps125
  go_wp2
  go_ret
  exact ⟨bl.ret1 (bl.int_eq (IntKind.wrap_u64 _)), rfl⟩
theorem fn4 (x y : Int) (w : World) (x0 : 0 ≤ x) (x1 : x < 18446744073709551616) (y0 : 0 ≤ y) (y1 : y < 18446744073709551616) : Calls Tryz.prog 126 #[.int .u64 x, .int .u64 y] w fun e w' => e = .returned (.int .u64 (wd.mulh x y true true)) ∧ w = w' := by
  go_enter Tryz.func126, Tryz.ntmps126
  go_wp2_with fail
  refine (mulh_ss x y _ x0 x1 y0 y1).mono ?_
  rintro e w' ⟨rfl, rfl⟩
  go_wp2
  go_ret
  exact ⟨rfl, rfl⟩
theorem fn5 (x y : Int) (w : World) (x0 : 0 ≤ x) (x1 : x < 18446744073709551616) (y0 : 0 ≤ y) (y1 : y < 18446744073709551616) : Calls Tryz.prog 128 #[.int .u64 x, .int .u64 y] w fun e w' => e = .returned (.int .u64 (wd.mulh x y false false)) ∧ w = w' := by
  go_enter Tryz.func128, Tryz.ntmps128
  go_wp2_with fail
  refine (mulh_uu x y _ x0 x1 y0 y1).mono ?_
  rintro e w' ⟨rfl, rfl⟩
  go_wp2
  go_ret
  exact ⟨rfl, rfl⟩
theorem fn6 (x y : Int) (w : World) (x0 : 0 ≤ x) (x1 : x < 18446744073709551616) (y0 : 0 ≤ y) (y1 : y < 18446744073709551616) : Calls Tryz.prog 129 #[.int .u64 x, .int .u64 y] w fun e w' => e = .returned (.int .u64 (wd.mulh x y true false)) ∧ w = w' := by
  go_enter Tryz.func129, Tryz.ntmps129
  go_wp2_with fail
  refine (mulh_su x y _ x0 x1 y0 y1).mono ?_
  rintro e w' ⟨rfl, rfl⟩
  go_wp2
  go_ret
  exact ⟨rfl, rfl⟩
theorem fn11 (x y : Int) (w : World) (x0 : 0 ≤ x) (x1 : x < 18446744073709551616) (y0 : 0 ≤ y) (y1 : y < 18446744073709551616) : Calls Tryz.prog 134 #[.int .u64 x, .int .u64 y] w fun e w' => e = .returned (.int .u64 (bits .and .u64 x y)) ∧ w = w' := by
  go_enter Tryz.func134, Tryz.ntmps134
  go_wp2
  go_ret
  exact ⟨rfl, rfl⟩
theorem fn12 (x y : Int) (w : World) (x0 : 0 ≤ x) (x1 : x < 18446744073709551616) (y0 : 0 ≤ y) (y1 : y < 18446744073709551616) : Calls Tryz.prog 135 #[.int .u64 x, .int .u64 y] w fun e w' => e = .returned (.int .u64 (bits .or .u64 x y)) ∧ w = w' := by
  go_enter Tryz.func135, Tryz.ntmps135
  go_wp2
  go_ret
  exact ⟨rfl, rfl⟩
theorem fn13 (x y : Int) (w : World) (x0 : 0 ≤ x) (x1 : x < 18446744073709551616) (y0 : 0 ≤ y) (y1 : y < 18446744073709551616) : Calls Tryz.prog 136 #[.int .u64 x, .int .u64 y] w fun e w' => e = .returned (.int .u64 (bits .xor .u64 x y)) ∧ w = w' := by
  go_enter Tryz.func136, Tryz.ntmps136
  go_wp2
  go_ret
  exact ⟨rfl, rfl⟩
theorem fn14 (x y : Int) (w : World) (x0 : 0 ≤ x) (x1 : x < 18446744073709551616) (y0 : 0 ≤ y) (y1 : y < 18446744073709551616) : Calls Tryz.prog 137 #[.int .u64 x, .int .u64 y] w fun e w' => e = .returned (.int .u64 (wd.shl x (y % 64))) ∧ w = w' := by
  go_enter Tryz.func137, Tryz.ntmps137
  go_wp2
  go_ret
  exact ⟨bl.ret1 (bl.int_eq (IntKind.wrap_u64 _)), rfl⟩
theorem fn15 (x y : Int) (w : World) (x0 : 0 ≤ x) (x1 : x < 18446744073709551616) (y0 : 0 ≤ y) (y1 : y < 18446744073709551616) : Calls Tryz.prog 138 #[.int .u64 x, .int .u64 y] w fun e w' => e = .returned (.int .u64 (wd.shr x (y % 64))) ∧ w = w' := by
  go_enter Tryz.func138, Tryz.ntmps138
  go_wp2
  go_ret
  exact ⟨rfl, rfl⟩
theorem fn16 (x y : Int) (w : World) (x0 : 0 ≤ x) (x1 : x < 18446744073709551616) (y0 : 0 ≤ y) (y1 : y < 18446744073709551616) : Calls Tryz.prog 139 #[.int .u64 x, .int .u64 y] w fun e w' => e = .returned (.int .u64 (wd.sar x (y % 64))) ∧ w = w' := by
  go_enter Tryz.func139, Tryz.ntmps139
  go_wp2
  go_ret
  exact ⟨bl.ret1 (bl.int_eq (IntKind.wrap_u64 _)), rfl⟩
theorem flag_any (b : Bool) (w : World) : Calls Tryz.prog 141 #[.bool b] w fun e w' => e = .returned (.int .u64 (wd.bit b)) ∧ w = w' := by
  cases b
  · go_enter Tryz.func141, Tryz.ntmps141
    go_wp2
    go_ret
    exact ⟨rfl, rfl⟩
  · go_enter Tryz.func141, Tryz.ntmps141
    go_wp2
    go_ret
    exact ⟨rfl, rfl⟩
theorem fn17 (x y : Int) (w : World) (x0 : 0 ≤ x) (x1 : x < 18446744073709551616) (y0 : 0 ≤ y) (y1 : y < 18446744073709551616) : Calls Tryz.prog 140 #[.int .u64 x, .int .u64 y] w fun e w' => e = .returned (.int .u64 (wd.bit (decide (wrap64 x < wrap64 y)))) ∧ w = w' := by
  go_enter Tryz.func140, Tryz.ntmps140
  go_wp2_with fail
  refine (flag_any _ _).mono ?_
  rintro e w' ⟨rfl, rfl⟩
  go_wp2
  go_ret
  exact ⟨rfl, rfl⟩
theorem fn18 (x y : Int) (w : World) (x0 : 0 ≤ x) (x1 : x < 18446744073709551616) (y0 : 0 ≤ y) (y1 : y < 18446744073709551616) : Calls Tryz.prog 142 #[.int .u64 x, .int .u64 y] w fun e w' => e = .returned (.int .u64 (wd.bit (decide (x < y)))) ∧ w = w' := by
  go_enter Tryz.func142, Tryz.ntmps142
  go_wp2_with fail
  refine (flag_any _ _).mono ?_
  rintro e w' ⟨rfl, rfl⟩
  go_wp2
  go_ret
  exact ⟨rfl, rfl⟩
theorem fn19 (x y : Int) (w : World) (x0 : 0 ≤ x) (x1 : x < 18446744073709551616) (y0 : 0 ≤ y) (y1 : y < 18446744073709551616) : Calls Tryz.prog 143 #[.int .u64 x, .int .u64 y] w fun e w' => e = .returned (.int .u64 (wd.bit (x == y))) ∧ w = w' := by
  go_enter Tryz.func143, Tryz.ntmps143
  go_wp2_with fail
  refine (flag_any _ _).mono ?_
  rintro e w' ⟨rfl, rfl⟩
  go_wp2
  go_ret
  exact ⟨rfl, rfl⟩
theorem fn20 (x y : Int) (w : World) (x0 : 0 ≤ x) (x1 : x < 18446744073709551616) (y0 : 0 ≤ y) (y1 : y < 18446744073709551616) : Calls Tryz.prog 144 #[.int .u64 x, .int .u64 y] w fun e w' => e = .returned (.int .u64 (wd.bit (x != y))) ∧ w = w' := by
  go_enter Tryz.func144, Tryz.ntmps144
  go_wp2_with fail
  refine (flag_any _ _).mono ?_
  rintro e w' ⟨rfl, rfl⟩
  go_wp2
  go_ret
  exact ⟨rfl, rfl⟩
theorem wd_neg1 (x : Int) (x0 : 0 ≤ x) (x1 : x < 18446744073709551616) : -x % 18446744073709551616 = (wrap64 x).tdiv (-1) % 18446744073709551616 := by
  have e : (wrap64 x).tdiv (-1) = -(wrap64 x) := by rw [Int.tdiv_neg, Int.tdiv_one]
  rw [e]
  unfold wrap64
  omega
theorem fn7 (x y : Int) (w : World) (x0 : 0 ≤ x) (x1 : x < 18446744073709551616) (y0 : 0 ≤ y) (y1 : y < 18446744073709551616) : Calls Tryz.prog 130 #[.int .u64 x, .int .u64 y] w fun e w' => e = .returned (.int .u64 (wd.divS x y)) ∧ w = w' := by
  by_cases hy : y = 0
  · subst hy
    go_enter Tryz.func130, Tryz.ntmps130
    go_wp2
    go_ret
    exact ⟨rfl, rfl⟩
  · have hw : ¬ wrap64 y = 0 := by unfold wrap64; omega
    have hw0 : (wrap64 y == 0) = false := by simpa using hw
    by_cases hn : wrap64 y = -1
    · have hn1 : (wrap64 y == -1) = true := by rw [hn]; rfl
      have HN := bl.hid hn
      have HY := bl.hid hy
      clear hn hy
      go_enter Tryz.func130, Tryz.ntmps130
      go_wp2
      go_ret
      exact ⟨bl.ret1 (bl.int_eq (by rw [wd.divS, if_neg HY.out, HN.out, ← wd_neg1 x x0 x1, IntKind.wrap_u64])), rfl⟩
    · have hn1 : (wrap64 y == -1) = false := by simpa using hn
      have HY := bl.hid hy
      clear hn hy
      go_enter Tryz.func130, Tryz.ntmps130
      go_wp2
      go_ret
      exact ⟨bl.ret1 (bl.int_eq (by rw [wd.divS, if_neg HY.out, IntKind.wrap_u64]; unfold wrap64; omega)), rfl⟩
theorem fn9 (x y : Int) (w : World) (x0 : 0 ≤ x) (x1 : x < 18446744073709551616) (y0 : 0 ≤ y) (y1 : y < 18446744073709551616) : Calls Tryz.prog 132 #[.int .u64 x, .int .u64 y] w fun e w' => e = .returned (.int .u64 (wd.remS x y)) ∧ w = w' := by
  by_cases hy : y = 0
  · subst hy
    go_enter Tryz.func132, Tryz.ntmps132
    go_wp2
    go_ret
    exact ⟨rfl, rfl⟩
  · have hw : ¬ wrap64 y = 0 := by unfold wrap64; omega
    have hw0 : (wrap64 y == 0) = false := by simpa using hw
    by_cases hn : wrap64 y = -1
    · have hn1 : (wrap64 y == -1) = true := by rw [hn]; rfl
      have HN := bl.hid hn
      have HY := bl.hid hy
      clear hn hy
      go_enter Tryz.func132, Tryz.ntmps132
      go_wp2
      go_ret
      exact ⟨bl.ret1 (bl.int_eq (by rw [wd.remS, if_neg HY.out, HN.out, Int.tmod_neg, Int.tmod_one]; rfl)), rfl⟩
    · have hn1 : (wrap64 y == -1) = false := by simpa using hn
      have HY := bl.hid hy
      clear hn hy
      go_enter Tryz.func132, Tryz.ntmps132
      go_wp2
      go_ret
      exact ⟨bl.ret1 (bl.int_eq (by rw [wd.remS, if_neg HY.out, IntKind.wrap_u64])), rfl⟩
theorem fn8 (x y : Int) (w : World) (x0 : 0 ≤ x) (x1 : x < 18446744073709551616) (y0 : 0 ≤ y) (y1 : y < 18446744073709551616) : Calls Tryz.prog 131 #[.int .u64 x, .int .u64 y] w fun e w' => e = .returned (.int .u64 (wd.divU x y)) ∧ w = w' := by
  by_cases hy : y = 0
  · subst hy
    go_enter Tryz.func131, Tryz.ntmps131
    go_wp2
    go_ret
    exact ⟨rfl, rfl⟩
  · have hy0 : (y == 0) = false := by simpa using hy
    have HY := bl.hid hy
    go_enter Tryz.func131, Tryz.ntmps131
    go_wp2
    go_ret
    exact ⟨bl.ret1 (bl.int_eq (by rw [wd.divU, if_neg HY.out])), rfl⟩
theorem fn10 (x y : Int) (w : World) (x0 : 0 ≤ x) (x1 : x < 18446744073709551616) (y0 : 0 ≤ y) (y1 : y < 18446744073709551616) : Calls Tryz.prog 133 #[.int .u64 x, .int .u64 y] w fun e w' => e = .returned (.int .u64 (wd.remU x y)) ∧ w = w' := by
  by_cases hy : y = 0
  · subst hy
    go_enter Tryz.func133, Tryz.ntmps133
    go_wp2
    go_ret
    exact ⟨rfl, rfl⟩
  · have hy0 : (y == 0) = false := by simpa using hy
    have HY := bl.hid hy
    go_enter Tryz.func133, Tryz.ntmps133
    go_wp2
    go_ret
    exact ⟨bl.ret1 (bl.int_eq (by rw [wd.remU, if_neg HY.out])), rfl⟩

/-! ### the table, and Do -/
def fnsArr : Array Value := #[.nilFunc, .func (.func 123) #[] #[], .func (.func 124) #[] #[], .func (.func 125) #[] #[], .func (.func 126) #[] #[], .func (.func 128) #[] #[], .func (.func 129) #[] #[], .func (.func 130) #[] #[], .func (.func 131) #[] #[], .func (.func 132) #[] #[], .func (.func 133) #[] #[], .func (.func 134) #[] #[], .func (.func 135) #[] #[], .func (.func 136) #[] #[], .func (.func 137) #[] #[], .func (.func 138) #[] #[], .func (.func 139) #[] #[], .func (.func 140) #[] #[], .func (.func 142) #[] #[], .func (.func 143) #[] #[], .func (.func 144) #[] #[]]
theorem fnsArr_info : (Tryz.prog.info? 168).map (·.size) = some 21 := by kernel_rfl
theorem fnsArr_size : fnsArr.size = 21 := by rfl
theorem fnsArr_one : fnsArr.all (·.oneCell') = true := by decide +kernel
set_option maxRecDepth 100000 in
theorem functions_any (w : World) : Calls Tryz.prog 121 #[] w fun e w' => e = .returned (.agg fnsArr) ∧ Below w.heap.size w w' := by
  go_enter Tryz.func121, Tryz.ntmps121
  go_wp2_with (refine kt.wpList_store_row_new rfl 168 _ _ rfl rfl _ fnsArr rfl rfl fnsArr_info rfl fnsArr_one ?_)
  refine bodyPost_ret (results_cell_row rfl _ _ w.heap.size 168 fnsArr (0, 0) _ rfl (heap_alloc_last _ _) Tryz.underlying168 rfl fnsArr_info) rfl ?_
  exact ⟨rfl, kt.below_row _⟩
theorem idx1 (w : World) : (Instr.index 168 (.agg fnsArr) (.int .i64 1)).run Tryz.prog w = .ok (.func (.func 123) #[] #[]) w := by kernel_rfl
theorem do1 (x y : Int) (w : World) (x0 : 0 ≤ x) (x1 : x < 18446744073709551616) (y0 : 0 ≤ y) (y1 : y < 18446744073709551616) : Calls Tryz.prog 107 #[.int .i64 1, .int .u64 x, .int .u64 y] w fun e w' => e = .returned (.tuple #[.int .u64 (wd.doV 1 x y), .int .i64 0]) ∧ Below w.heap.size w w' := by
  have hi := idx1
  go_enter Tryz.func107, Tryz.ntmps107
  go_wp2_with fail
  refine (functions_any _).mono ?_
  rintro e wA ⟨rfl, hg⟩
  go_wp2_with fail
  refine (fn1 x y _ x0 x1 y0 y1).mono ?_
  rintro e w' ⟨rfl, rfl⟩
  go_wp2
  go_ret2
  exact ⟨rfl, hg⟩
theorem idx2 (w : World) : (Instr.index 168 (.agg fnsArr) (.int .i64 2)).run Tryz.prog w = .ok (.func (.func 124) #[] #[]) w := by kernel_rfl
theorem do2 (x y : Int) (w : World) (x0 : 0 ≤ x) (x1 : x < 18446744073709551616) (y0 : 0 ≤ y) (y1 : y < 18446744073709551616) : Calls Tryz.prog 107 #[.int .i64 2, .int .u64 x, .int .u64 y] w fun e w' => e = .returned (.tuple #[.int .u64 (wd.doV 2 x y), .int .i64 0]) ∧ Below w.heap.size w w' := by
  have hi := idx2
  go_enter Tryz.func107, Tryz.ntmps107
  go_wp2_with fail
  refine (functions_any _).mono ?_
  rintro e wA ⟨rfl, hg⟩
  go_wp2_with fail
  refine (fn2 x y _ x0 x1 y0 y1).mono ?_
  rintro e w' ⟨rfl, rfl⟩
  go_wp2
  go_ret2
  exact ⟨rfl, hg⟩
theorem idx3 (w : World) : (Instr.index 168 (.agg fnsArr) (.int .i64 3)).run Tryz.prog w = .ok (.func (.func 125) #[] #[]) w := by kernel_rfl
theorem do3 (x y : Int) (w : World) (x0 : 0 ≤ x) (x1 : x < 18446744073709551616) (y0 : 0 ≤ y) (y1 : y < 18446744073709551616) : Calls Tryz.prog 107 #[.int .i64 3, .int .u64 x, .int .u64 y] w fun e w' => e = .returned (.tuple #[.int .u64 (wd.doV 3 x y), .int .i64 0]) ∧ Below w.heap.size w w' := by
  have hi := idx3
  go_enter Tryz.func107, Tryz.ntmps107
  go_wp2_with fail
  refine (functions_any _).mono ?_
  rintro e wA ⟨rfl, hg⟩
  go_wp2_with fail
  refine (fn3 x y _ x0 x1 y0 y1).mono ?_
  rintro e w' ⟨rfl, rfl⟩
  go_wp2
  go_ret2
  exact ⟨rfl, hg⟩
theorem idx4 (w : World) : (Instr.index 168 (.agg fnsArr) (.int .i64 4)).run Tryz.prog w = .ok (.func (.func 126) #[] #[]) w := by kernel_rfl
theorem do4 (x y : Int) (w : World) (x0 : 0 ≤ x) (x1 : x < 18446744073709551616) (y0 : 0 ≤ y) (y1 : y < 18446744073709551616) : Calls Tryz.prog 107 #[.int .i64 4, .int .u64 x, .int .u64 y] w fun e w' => e = .returned (.tuple #[.int .u64 (wd.doV 4 x y), .int .i64 0]) ∧ Below w.heap.size w w' := by
  have hi := idx4
  go_enter Tryz.func107, Tryz.ntmps107
  go_wp2_with fail
  refine (functions_any _).mono ?_
  rintro e wA ⟨rfl, hg⟩
  go_wp2_with fail
  refine (fn4 x y _ x0 x1 y0 y1).mono ?_
  rintro e w' ⟨rfl, rfl⟩
  go_wp2
  go_ret2
  exact ⟨rfl, hg⟩
theorem idx5 (w : World) : (Instr.index 168 (.agg fnsArr) (.int .i64 5)).run Tryz.prog w = .ok (.func (.func 128) #[] #[]) w := by kernel_rfl
theorem do5 (x y : Int) (w : World) (x0 : 0 ≤ x) (x1 : x < 18446744073709551616) (y0 : 0 ≤ y) (y1 : y < 18446744073709551616) : Calls Tryz.prog 107 #[.int .i64 5, .int .u64 x, .int .u64 y] w fun e w' => e = .returned (.tuple #[.int .u64 (wd.doV 5 x y), .int .i64 0]) ∧ Below w.heap.size w w' := by
  have hi := idx5
  go_enter Tryz.func107, Tryz.ntmps107
  go_wp2_with fail
  refine (functions_any _).mono ?_
  rintro e wA ⟨rfl, hg⟩
  go_wp2_with fail
  refine (fn5 x y _ x0 x1 y0 y1).mono ?_
  rintro e w' ⟨rfl, rfl⟩
  go_wp2
  go_ret2
  exact ⟨rfl, hg⟩
theorem idx6 (w : World) : (Instr.index 168 (.agg fnsArr) (.int .i64 6)).run Tryz.prog w = .ok (.func (.func 129) #[] #[]) w := by kernel_rfl
theorem do6 (x y : Int) (w : World) (x0 : 0 ≤ x) (x1 : x < 18446744073709551616) (y0 : 0 ≤ y) (y1 : y < 18446744073709551616) : Calls Tryz.prog 107 #[.int .i64 6, .int .u64 x, .int .u64 y] w fun e w' => e = .returned (.tuple #[.int .u64 (wd.doV 6 x y), .int .i64 0]) ∧ Below w.heap.size w w' := by
  have hi := idx6
  go_enter Tryz.func107, Tryz.ntmps107
  go_wp2_with fail
  refine (functions_any _).mono ?_
  rintro e wA ⟨rfl, hg⟩
  go_wp2_with fail
  refine (fn6 x y _ x0 x1 y0 y1).mono ?_
  rintro e w' ⟨rfl, rfl⟩
  go_wp2
  go_ret2
  exact ⟨rfl, hg⟩
theorem idx7 (w : World) : (Instr.index 168 (.agg fnsArr) (.int .i64 7)).run Tryz.prog w = .ok (.func (.func 130) #[] #[]) w := by kernel_rfl
theorem do7 (x y : Int) (w : World) (x0 : 0 ≤ x) (x1 : x < 18446744073709551616) (y0 : 0 ≤ y) (y1 : y < 18446744073709551616) : Calls Tryz.prog 107 #[.int .i64 7, .int .u64 x, .int .u64 y] w fun e w' => e = .returned (.tuple #[.int .u64 (wd.doV 7 x y), .int .i64 0]) ∧ Below w.heap.size w w' := by
  have hi := idx7
  go_enter Tryz.func107, Tryz.ntmps107
  go_wp2_with fail
  refine (functions_any _).mono ?_
  rintro e wA ⟨rfl, hg⟩
  go_wp2_with fail
  refine (fn7 x y _ x0 x1 y0 y1).mono ?_
  rintro e w' ⟨rfl, rfl⟩
  go_wp2
  go_ret2
  exact ⟨rfl, hg⟩
theorem idx8 (w : World) : (Instr.index 168 (.agg fnsArr) (.int .i64 8)).run Tryz.prog w = .ok (.func (.func 131) #[] #[]) w := by kernel_rfl
theorem do8 (x y : Int) (w : World) (x0 : 0 ≤ x) (x1 : x < 18446744073709551616) (y0 : 0 ≤ y) (y1 : y < 18446744073709551616) : Calls Tryz.prog 107 #[.int .i64 8, .int .u64 x, .int .u64 y] w fun e w' => e = .returned (.tuple #[.int .u64 (wd.doV 8 x y), .int .i64 0]) ∧ Below w.heap.size w w' := by
  have hi := idx8
  go_enter Tryz.func107, Tryz.ntmps107
  go_wp2_with fail
  refine (functions_any _).mono ?_
  rintro e wA ⟨rfl, hg⟩
  go_wp2_with fail
  refine (fn8 x y _ x0 x1 y0 y1).mono ?_
  rintro e w' ⟨rfl, rfl⟩
  go_wp2
  go_ret2
  exact ⟨rfl, hg⟩
theorem idx9 (w : World) : (Instr.index 168 (.agg fnsArr) (.int .i64 9)).run Tryz.prog w = .ok (.func (.func 132) #[] #[]) w := by kernel_rfl
theorem do9 (x y : Int) (w : World) (x0 : 0 ≤ x) (x1 : x < 18446744073709551616) (y0 : 0 ≤ y) (y1 : y < 18446744073709551616) : Calls Tryz.prog 107 #[.int .i64 9, .int .u64 x, .int .u64 y] w fun e w' => e = .returned (.tuple #[.int .u64 (wd.doV 9 x y), .int .i64 0]) ∧ Below w.heap.size w w' := by
  have hi := idx9
  go_enter Tryz.func107, Tryz.ntmps107
  go_wp2_with fail
  refine (functions_any _).mono ?_
  rintro e wA ⟨rfl, hg⟩
  go_wp2_with fail
  refine (fn9 x y _ x0 x1 y0 y1).mono ?_
  rintro e w' ⟨rfl, rfl⟩
  go_wp2
  go_ret2
  exact ⟨rfl, hg⟩
theorem idx10 (w : World) : (Instr.index 168 (.agg fnsArr) (.int .i64 10)).run Tryz.prog w = .ok (.func (.func 133) #[] #[]) w := by kernel_rfl
theorem do10 (x y : Int) (w : World) (x0 : 0 ≤ x) (x1 : x < 18446744073709551616) (y0 : 0 ≤ y) (y1 : y < 18446744073709551616) : Calls Tryz.prog 107 #[.int .i64 10, .int .u64 x, .int .u64 y] w fun e w' => e = .returned (.tuple #[.int .u64 (wd.doV 10 x y), .int .i64 0]) ∧ Below w.heap.size w w' := by
  have hi := idx10
  go_enter Tryz.func107, Tryz.ntmps107
  go_wp2_with fail
  refine (functions_any _).mono ?_
  rintro e wA ⟨rfl, hg⟩
  go_wp2_with fail
  refine (fn10 x y _ x0 x1 y0 y1).mono ?_
  rintro e w' ⟨rfl, rfl⟩
  go_wp2
  go_ret2
  exact ⟨rfl, hg⟩
theorem idx11 (w : World) : (Instr.index 168 (.agg fnsArr) (.int .i64 11)).run Tryz.prog w = .ok (.func (.func 134) #[] #[]) w := by kernel_rfl
theorem do11 (x y : Int) (w : World) (x0 : 0 ≤ x) (x1 : x < 18446744073709551616) (y0 : 0 ≤ y) (y1 : y < 18446744073709551616) : Calls Tryz.prog 107 #[.int .i64 11, .int .u64 x, .int .u64 y] w fun e w' => e = .returned (.tuple #[.int .u64 (wd.doV 11 x y), .int .i64 0]) ∧ Below w.heap.size w w' := by
  have hi := idx11
  go_enter Tryz.func107, Tryz.ntmps107
  go_wp2_with fail
  refine (functions_any _).mono ?_
  rintro e wA ⟨rfl, hg⟩
  go_wp2_with fail
  refine (fn11 x y _ x0 x1 y0 y1).mono ?_
  rintro e w' ⟨rfl, rfl⟩
  go_wp2
  go_ret2
  exact ⟨rfl, hg⟩
theorem idx12 (w : World) : (Instr.index 168 (.agg fnsArr) (.int .i64 12)).run Tryz.prog w = .ok (.func (.func 135) #[] #[]) w := by kernel_rfl
theorem do12 (x y : Int) (w : World) (x0 : 0 ≤ x) (x1 : x < 18446744073709551616) (y0 : 0 ≤ y) (y1 : y < 18446744073709551616) : Calls Tryz.prog 107 #[.int .i64 12, .int .u64 x, .int .u64 y] w fun e w' => e = .returned (.tuple #[.int .u64 (wd.doV 12 x y), .int .i64 0]) ∧ Below w.heap.size w w' := by
  have hi := idx12
  go_enter Tryz.func107, Tryz.ntmps107
  go_wp2_with fail
  refine (functions_any _).mono ?_
  rintro e wA ⟨rfl, hg⟩
  go_wp2_with fail
  refine (fn12 x y _ x0 x1 y0 y1).mono ?_
  rintro e w' ⟨rfl, rfl⟩
  go_wp2
  go_ret2
  exact ⟨rfl, hg⟩
theorem idx13 (w : World) : (Instr.index 168 (.agg fnsArr) (.int .i64 13)).run Tryz.prog w = .ok (.func (.func 136) #[] #[]) w := by kernel_rfl
theorem do13 (x y : Int) (w : World) (x0 : 0 ≤ x) (x1 : x < 18446744073709551616) (y0 : 0 ≤ y) (y1 : y < 18446744073709551616) : Calls Tryz.prog 107 #[.int .i64 13, .int .u64 x, .int .u64 y] w fun e w' => e = .returned (.tuple #[.int .u64 (wd.doV 13 x y), .int .i64 0]) ∧ Below w.heap.size w w' := by
  have hi := idx13
  go_enter Tryz.func107, Tryz.ntmps107
  go_wp2_with fail
  refine (functions_any _).mono ?_
  rintro e wA ⟨rfl, hg⟩
  go_wp2_with fail
  refine (fn13 x y _ x0 x1 y0 y1).mono ?_
  rintro e w' ⟨rfl, rfl⟩
  go_wp2
  go_ret2
  exact ⟨rfl, hg⟩
theorem idx14 (w : World) : (Instr.index 168 (.agg fnsArr) (.int .i64 14)).run Tryz.prog w = .ok (.func (.func 137) #[] #[]) w := by kernel_rfl
theorem do14 (x y : Int) (w : World) (x0 : 0 ≤ x) (x1 : x < 18446744073709551616) (y0 : 0 ≤ y) (y1 : y < 18446744073709551616) : Calls Tryz.prog 107 #[.int .i64 14, .int .u64 x, .int .u64 y] w fun e w' => e = .returned (.tuple #[.int .u64 (wd.doV 14 x y), .int .i64 0]) ∧ Below w.heap.size w w' := by
  have hi := idx14
  go_enter Tryz.func107, Tryz.ntmps107
  go_wp2_with fail
  refine (functions_any _).mono ?_
  rintro e wA ⟨rfl, hg⟩
  go_wp2_with fail
  refine (fn14 x y _ x0 x1 y0 y1).mono ?_
  rintro e w' ⟨rfl, rfl⟩
  go_wp2
  go_ret2
  exact ⟨rfl, hg⟩
theorem idx15 (w : World) : (Instr.index 168 (.agg fnsArr) (.int .i64 15)).run Tryz.prog w = .ok (.func (.func 138) #[] #[]) w := by kernel_rfl
theorem do15 (x y : Int) (w : World) (x0 : 0 ≤ x) (x1 : x < 18446744073709551616) (y0 : 0 ≤ y) (y1 : y < 18446744073709551616) : Calls Tryz.prog 107 #[.int .i64 15, .int .u64 x, .int .u64 y] w fun e w' => e = .returned (.tuple #[.int .u64 (wd.doV 15 x y), .int .i64 0]) ∧ Below w.heap.size w w' := by
  have hi := idx15
  go_enter Tryz.func107, Tryz.ntmps107
  go_wp2_with fail
  refine (functions_any _).mono ?_
  rintro e wA ⟨rfl, hg⟩
  go_wp2_with fail
  refine (fn15 x y _ x0 x1 y0 y1).mono ?_
  rintro e w' ⟨rfl, rfl⟩
  go_wp2
  go_ret2
  exact ⟨rfl, hg⟩
theorem idx16 (w : World) : (Instr.index 168 (.agg fnsArr) (.int .i64 16)).run Tryz.prog w = .ok (.func (.func 139) #[] #[]) w := by kernel_rfl
theorem do16 (x y : Int) (w : World) (x0 : 0 ≤ x) (x1 : x < 18446744073709551616) (y0 : 0 ≤ y) (y1 : y < 18446744073709551616) : Calls Tryz.prog 107 #[.int .i64 16, .int .u64 x, .int .u64 y] w fun e w' => e = .returned (.tuple #[.int .u64 (wd.doV 16 x y), .int .i64 0]) ∧ Below w.heap.size w w' := by
  have hi := idx16
  go_enter Tryz.func107, Tryz.ntmps107
  go_wp2_with fail
  refine (functions_any _).mono ?_
  rintro e wA ⟨rfl, hg⟩
  go_wp2_with fail
  refine (fn16 x y _ x0 x1 y0 y1).mono ?_
  rintro e w' ⟨rfl, rfl⟩
  go_wp2
  go_ret2
  exact ⟨rfl, hg⟩
theorem idx17 (w : World) : (Instr.index 168 (.agg fnsArr) (.int .i64 17)).run Tryz.prog w = .ok (.func (.func 140) #[] #[]) w := by kernel_rfl
theorem do17 (x y : Int) (w : World) (x0 : 0 ≤ x) (x1 : x < 18446744073709551616) (y0 : 0 ≤ y) (y1 : y < 18446744073709551616) : Calls Tryz.prog 107 #[.int .i64 17, .int .u64 x, .int .u64 y] w fun e w' => e = .returned (.tuple #[.int .u64 (wd.doV 17 x y), .int .i64 0]) ∧ Below w.heap.size w w' := by
  have hi := idx17
  go_enter Tryz.func107, Tryz.ntmps107
  go_wp2_with fail
  refine (functions_any _).mono ?_
  rintro e wA ⟨rfl, hg⟩
  go_wp2_with fail
  refine (fn17 x y _ x0 x1 y0 y1).mono ?_
  rintro e w' ⟨rfl, rfl⟩
  go_wp2
  go_ret2
  exact ⟨rfl, hg⟩
theorem idx18 (w : World) : (Instr.index 168 (.agg fnsArr) (.int .i64 18)).run Tryz.prog w = .ok (.func (.func 142) #[] #[]) w := by kernel_rfl
theorem do18 (x y : Int) (w : World) (x0 : 0 ≤ x) (x1 : x < 18446744073709551616) (y0 : 0 ≤ y) (y1 : y < 18446744073709551616) : Calls Tryz.prog 107 #[.int .i64 18, .int .u64 x, .int .u64 y] w fun e w' => e = .returned (.tuple #[.int .u64 (wd.doV 18 x y), .int .i64 0]) ∧ Below w.heap.size w w' := by
  have hi := idx18
  go_enter Tryz.func107, Tryz.ntmps107
  go_wp2_with fail
  refine (functions_any _).mono ?_
  rintro e wA ⟨rfl, hg⟩
  go_wp2_with fail
  refine (fn18 x y _ x0 x1 y0 y1).mono ?_
  rintro e w' ⟨rfl, rfl⟩
  go_wp2
  go_ret2
  exact ⟨rfl, hg⟩
theorem idx19 (w : World) : (Instr.index 168 (.agg fnsArr) (.int .i64 19)).run Tryz.prog w = .ok (.func (.func 143) #[] #[]) w := by kernel_rfl
theorem do19 (x y : Int) (w : World) (x0 : 0 ≤ x) (x1 : x < 18446744073709551616) (y0 : 0 ≤ y) (y1 : y < 18446744073709551616) : Calls Tryz.prog 107 #[.int .i64 19, .int .u64 x, .int .u64 y] w fun e w' => e = .returned (.tuple #[.int .u64 (wd.doV 19 x y), .int .i64 0]) ∧ Below w.heap.size w w' := by
  have hi := idx19
  go_enter Tryz.func107, Tryz.ntmps107
  go_wp2_with fail
  refine (functions_any _).mono ?_
  rintro e wA ⟨rfl, hg⟩
  go_wp2_with fail
  refine (fn19 x y _ x0 x1 y0 y1).mono ?_
  rintro e w' ⟨rfl, rfl⟩
  go_wp2
  go_ret2
  exact ⟨rfl, hg⟩
theorem idx20 (w : World) : (Instr.index 168 (.agg fnsArr) (.int .i64 20)).run Tryz.prog w = .ok (.func (.func 144) #[] #[]) w := by kernel_rfl
theorem do20 (x y : Int) (w : World) (x0 : 0 ≤ x) (x1 : x < 18446744073709551616) (y0 : 0 ≤ y) (y1 : y < 18446744073709551616) : Calls Tryz.prog 107 #[.int .i64 20, .int .u64 x, .int .u64 y] w fun e w' => e = .returned (.tuple #[.int .u64 (wd.doV 20 x y), .int .i64 0]) ∧ Below w.heap.size w w' := by
  have hi := idx20
  go_enter Tryz.func107, Tryz.ntmps107
  go_wp2_with fail
  refine (functions_any _).mono ?_
  rintro e wA ⟨rfl, hg⟩
  go_wp2_with fail
  refine (fn20 x y _ x0 x1 y0 y1).mono ?_
  rintro e w' ⟨rfl, rfl⟩
  go_wp2
  go_ret2
  exact ⟨rfl, hg⟩
theorem do_no (f x y : Int) (w : World) (h : f < 1 ∨ 20 < f) : Calls Tryz.prog 107 #[.int .i64 f, .int .u64 x, .int .u64 y] w fun e w' => e = .returned (.tuple #[.int .u64 0, .int .i64 2]) ∧ w = w' := by
  go_enter Tryz.func107, Tryz.ntmps107
  go_wp2
  all_goals (go_ret2; exact ⟨rfl, rfl⟩)
theorem do_any (f x y : Int) (w : World) (x0 : 0 ≤ x) (x1 : x < 18446744073709551616) (y0 : 0 ≤ y) (y1 : y < 18446744073709551616) :
    Calls Tryz.prog 107 #[.int .i64 f, .int .u64 x, .int .u64 y] w fun e w' => e = .returned (.tuple #[.int .u64 (wd.doV f x y), .int .i64 (wd.doE f)]) ∧ Below w.heap.size w w' := by
  by_cases h : 1 ≤ f ∧ f ≤ 20
  · rw [wd.doE_of h]
    have : f = 1 ∨ f = 2 ∨ f = 3 ∨ f = 4 ∨ f = 5 ∨ f = 6 ∨ f = 7 ∨ f = 8 ∨ f = 9 ∨ f = 10 ∨ f = 11 ∨ f = 12 ∨ f = 13 ∨ f = 14 ∨ f = 15 ∨ f = 16 ∨ f = 17 ∨ f = 18 ∨ f = 19 ∨ f = 20 := by omega
    rcases this with rfl | rfl | rfl | rfl | rfl | rfl | rfl | rfl | rfl | rfl | rfl | rfl | rfl | rfl | rfl | rfl | rfl | rfl | rfl | rfl
    · exact do1 x y w x0 x1 y0 y1
    · exact do2 x y w x0 x1 y0 y1
    · exact do3 x y w x0 x1 y0 y1
    · exact do4 x y w x0 x1 y0 y1
    · exact do5 x y w x0 x1 y0 y1
    · exact do6 x y w x0 x1 y0 y1
    · exact do7 x y w x0 x1 y0 y1
    · exact do8 x y w x0 x1 y0 y1
    · exact do9 x y w x0 x1 y0 y1
    · exact do10 x y w x0 x1 y0 y1
    · exact do11 x y w x0 x1 y0 y1
    · exact do12 x y w x0 x1 y0 y1
    · exact do13 x y w x0 x1 y0 y1
    · exact do14 x y w x0 x1 y0 y1
    · exact do15 x y w x0 x1 y0 y1
    · exact do16 x y w x0 x1 y0 y1
    · exact do17 x y w x0 x1 y0 y1
    · exact do18 x y w x0 x1 y0 y1
    · exact do19 x y w x0 x1 y0 y1
    · exact do20 x y w x0 x1 y0 y1
  · rw [wd.doE_not h, wd.doV_not h]
    exact (do_no f x y w (by omega)).mono fun e w' q => ⟨q.1, q.2 ▸ Below.refl _ _⟩
end Go.Proofs.YtjjkocklpcdbkaaGreat
namespace Go.Proofs.YtjjkocklpcdbkaaGreat
open Go.RowKit
set_option linter.unusedVariables false
set_option maxRecDepth 100000

/-! ### the plain steps of a shift, and of a division by sizes and signs -/
theorem shl_zero (x : Int) (x0 : 0 ≤ x) (x1 : x < 18446744073709551616) : wd.shl x 0 = x := by
  simp only [wd.shl]
  simp
  omega
theorem shr_zero (x : Int) : wd.shr x 0 = x := by simp [wd.shr]
theorem sar_zero (x : Int) (x0 : 0 ≤ x) (x1 : x < 18446744073709551616) : wd.sar x 0 = x := by
  simp only [wd.sar]
  simp
  unfold wrap64
  omega
theorem shl_succ (x : Int) (k : Nat) : wd.shl x ((k : Int) + 1) = wd.shl x k * 2 % 18446744073709551616 := by
  have e : ((k : Int) + 1).toNat = k + 1 := by omega
  have e2 : ((k : Int)).toNat = k := by omega
  simp only [wd.shl, e, e2, Int.pow_succ]
  rw [← Int.mul_assoc]
  omega
theorem shr_succ (x : Int) (k : Nat) : wd.shr x ((k : Int) + 1) = wd.shr x k / 2 := by
  have e : ((k : Int) + 1).toNat = k + 1 := by omega
  have e2 : ((k : Int)).toNat = k := by omega
  simp only [wd.shr, e, e2, Int.pow_succ]
  rw [Int.ediv_ediv_of_nonneg (Int.le_of_lt (Int.pow_pos (by decide)))]
theorem div_pow_bd (q : Int) (k : Nat) (h1 : -9223372036854775808 ≤ q) (h2 : q < 9223372036854775808) : -9223372036854775808 ≤ q / 2 ^ k ∧ q / 2 ^ k < 9223372036854775808 := by
  have hp : (1 : Int) ≤ 2 ^ k := by have := Int.pow_pos (n := 2) (m := k) (by decide); omega
  constructor
  · rw [Int.le_ediv_iff_mul_le (by omega)]
    have := Int.mul_le_mul_of_nonneg_left hp (show (0 : Int) ≤ 9223372036854775808 by decide)
    omega
  · rw [Int.ediv_lt_iff_lt_mul (by omega)]
    have := Int.mul_le_mul_of_nonneg_left hp (show (0 : Int) ≤ 9223372036854775808 by decide)
    omega
theorem sar_succ (x : Int) (k : Nat) : wd.sar x ((k : Int) + 1) = (wd.sar x k / 2 + wd.sar x k / 9223372036854775808 * 9223372036854775808) % 18446744073709551616 := by
  have e : ((k : Int) + 1).toNat = k + 1 := by omega
  have e2 : ((k : Int)).toNat = k := by omega
  simp only [wd.sar, e, e2, Int.pow_succ]
  rw [← Int.ediv_ediv_of_nonneg (Int.le_of_lt (Int.pow_pos (by decide)))]
  have hb := div_pow_bd (wrap64 x) k (by unfold wrap64; omega) (by unfold wrap64; omega)
  generalize wrap64 x / 2 ^ k = q at *
  omega
theorem shr_bd (x : Int) (k : Int) (x0 : 0 ≤ x) (x1 : x < 18446744073709551616) : 0 ≤ wd.shr x k ∧ wd.shr x k < 18446744073709551616 := by
  have hp : (1 : Int) ≤ 2 ^ k.toNat := by have := Int.pow_pos (n := 2) (m := k.toNat) (by decide); omega
  unfold wd.shr
  exact ⟨Int.ediv_nonneg x0 (by omega), Int.lt_of_le_of_lt (Int.ediv_le_self _ x0) x1⟩
theorem tdiv_nn (a b : Int) (ha : 0 ≤ a) : (-a).tdiv (-b) = a / b := by rw [Int.neg_tdiv, Int.tdiv_neg, Int.neg_neg, Int.tdiv_eq_ediv_of_nonneg ha]
theorem tdiv_np (a b : Int) (ha : 0 ≤ a) : (-a).tdiv b = -(a / b) := by rw [Int.neg_tdiv, Int.tdiv_eq_ediv_of_nonneg ha]
theorem tdiv_pn (a b : Int) (ha : 0 ≤ a) : a.tdiv (-b) = -(a / b) := by rw [Int.tdiv_neg, Int.tdiv_eq_ediv_of_nonneg ha]
theorem tdiv_pp (a b : Int) (ha : 0 ≤ a) : a.tdiv b = a / b := Int.tdiv_eq_ediv_of_nonneg ha
theorem tmod_nn (a b : Int) (ha : 0 ≤ a) : (-a).tmod (-b) = -(a % b) := by rw [Int.neg_tmod, Int.tmod_neg, Int.tmod_eq_emod_of_nonneg ha]
theorem tmod_np (a b : Int) (ha : 0 ≤ a) : (-a).tmod b = -(a % b) := by rw [Int.neg_tmod, Int.tmod_eq_emod_of_nonneg ha]
theorem tmod_pn (a b : Int) (ha : 0 ≤ a) : a.tmod (-b) = a % b := by rw [Int.tmod_neg, Int.tmod_eq_emod_of_nonneg ha]
theorem tmod_pp (a b : Int) (ha : 0 ≤ a) : a.tmod b = a % b := Int.tmod_eq_emod_of_nonneg ha

/-! ### the reference's small functions -/
theorem rhigh_any (x y : Int) (w : World) (x0 : 0 ≤ x) (x1 : x < 18446744073709551616) (y0 : 0 ≤ y) (y1 : y < 18446744073709551616) : Calls Tryz.prog 78 #[.int .u64 x, .int .u64 y] w fun e w' => e = .returned (.int .u64 (wd.hi x y)) ∧ w = w' := by
  obtain ⟨a, ha⟩ : ∃ a, x / 4294967296 = a := ⟨_, rfl⟩
  obtain ⟨b, hb⟩ : ∃ b, x % 4294967296 = b := ⟨_, rfl⟩
  obtain ⟨c, hc⟩ : ∃ c, y / 4294967296 = c := ⟨_, rfl⟩
  obtain ⟨d, hd⟩ : ∃ d, y % 4294967296 = d := ⟨_, rfl⟩
  have hh := wd.hi_halves x y x0 x1 y0 y1 a b c d ha hb hc hd
  obtain ⟨p0, p1, p2, p3, p4, p5, p6, p7, p8, p9, p10⟩ := wd_hi_eq x y a b c d hh
  obtain ⟨a0, a1, b0, b1, c0, c1, d0, d1, -⟩ := hh
  have p8' : a * c + (a * d + b * d / 4294967296) / 4294967296 + ((a * d + b * d / 4294967296) % 4294967296 + b * c) / 4294967296 < 18446744073709551616 := by omega
  have hv := bl.hid p8
  clear p8 p9 p10
  go_enter Tryz.func78, Tryz.ntmps78
  go_wp2
  go_ret
  exact ⟨bl.ret1 (bl.int_eq (by rw [← hv.out]; omega)), rfl⟩
theorem rbelow_yes (x : Int) (w : World) (h : 9223372036854775808 ≤ x) : Calls Tryz.prog 79 #[.int .u64 x] w fun e w' => e = .returned (.bool true) ∧ w = w' := by
  go_enter Tryz.func79, Tryz.ntmps79
  go_wp2
  go_ret
  exact ⟨rfl, rfl⟩
theorem rbelow_no (x : Int) (w : World) (h : x < 9223372036854775808) : Calls Tryz.prog 79 #[.int .u64 x] w fun e w' => e = .returned (.bool false) ∧ w = w' := by
  go_enter Tryz.func79, Tryz.ntmps79
  go_wp2
  go_ret
  exact ⟨bl.ret1 (bl.bool_eq (decide_eq_false (by omega))), rfl⟩
theorem rminus_any (x : Int) (w : World) : Calls Tryz.prog 80 #[.int .u64 x] w fun e w' => e = .returned (.int .u64 (-x % 18446744073709551616)) ∧ w = w' := by
  go_enter Tryz.func80, Tryz.ntmps80
  go_wp2
  go_ret
  exact ⟨bl.ret1 (bl.int_eq (by simp [IntKind.wrap_u64])), rfl⟩
theorem rbit_any (b : Bool) (w : World) : Calls Tryz.prog 82 #[.bool b] w fun e w' => e = .returned (.int .u64 (wd.bit b)) ∧ w = w' := by
  cases b
  · go_enter Tryz.func82, Tryz.ntmps82
    go_wp2
    go_ret
    exact ⟨rfl, rfl⟩
  · go_enter Tryz.func82, Tryz.ntmps82
    go_wp2
    go_ret
    exact ⟨rfl, rfl⟩

theorem rproduct4 (x y : Int) (w : World) (x0 : 0 ≤ x) (x1 : x < 18446744073709551616) (y0 : 0 ≤ y) (y1 : y < 18446744073709551616) : Calls Tryz.prog 60 #[.int .i64 4, .int .u64 x, .int .u64 y] w fun e w' => e = .returned (.int .u64 (wd.mulh x y true true)) ∧ w = w' := by
  have hb := wd_hi_bd x y x0 x1 y0 y1
  by_cases gx : 9223372036854775808 ≤ x
  · by_cases gy : 9223372036854775808 ≤ y
    · go_enter Tryz.func60, Tryz.ntmps60
      go_wp2_with fail
      refine (rhigh_any x y _ x0 x1 y0 y1).mono ?_
      rintro e w' ⟨rfl, rfl⟩
      go_wp2_with fail
      refine (rbelow_yes x _ gx).mono ?_
      rintro e w' ⟨rfl, rfl⟩
      go_wp2_with fail
      refine (rbelow_yes y _ gy).mono ?_
      rintro e w' ⟨rfl, rfl⟩
      go_wp2
      go_ret
      exact ⟨bl.ret1 (bl.int_eq (by (try simp only [IntKind.wrap_u64]); simp only [wd.mulh, wd.off, true_and]; (repeat' split) <;> omega)), rfl⟩
    · go_enter Tryz.func60, Tryz.ntmps60
      go_wp2_with fail
      refine (rhigh_any x y _ x0 x1 y0 y1).mono ?_
      rintro e w' ⟨rfl, rfl⟩
      go_wp2_with fail
      refine (rbelow_yes x _ gx).mono ?_
      rintro e w' ⟨rfl, rfl⟩
      go_wp2_with fail
      refine (rbelow_no y _ (by omega)).mono ?_
      rintro e w' ⟨rfl, rfl⟩
      go_wp2
      go_ret
      exact ⟨bl.ret1 (bl.int_eq (by (try simp only [IntKind.wrap_u64]); simp only [wd.mulh, wd.off, true_and]; (repeat' split) <;> omega)), rfl⟩
  · by_cases gy : 9223372036854775808 ≤ y
    · go_enter Tryz.func60, Tryz.ntmps60
      go_wp2_with fail
      refine (rhigh_any x y _ x0 x1 y0 y1).mono ?_
      rintro e w' ⟨rfl, rfl⟩
      go_wp2_with fail
      refine (rbelow_no x _ (by omega)).mono ?_
      rintro e w' ⟨rfl, rfl⟩
      go_wp2_with fail
      refine (rbelow_yes y _ gy).mono ?_
      rintro e w' ⟨rfl, rfl⟩
      go_wp2
      go_ret
      exact ⟨bl.ret1 (bl.int_eq (by (try simp only [IntKind.wrap_u64]); simp only [wd.mulh, wd.off, true_and]; (repeat' split) <;> omega)), rfl⟩
    · go_enter Tryz.func60, Tryz.ntmps60
      go_wp2_with fail
      refine (rhigh_any x y _ x0 x1 y0 y1).mono ?_
      rintro e w' ⟨rfl, rfl⟩
      go_wp2_with fail
      refine (rbelow_no x _ (by omega)).mono ?_
      rintro e w' ⟨rfl, rfl⟩
      go_wp2_with fail
      refine (rbelow_no y _ (by omega)).mono ?_
      rintro e w' ⟨rfl, rfl⟩
      go_wp2
      go_ret
      exact ⟨bl.ret1 (bl.int_eq (by (try simp only [IntKind.wrap_u64]); simp only [wd.mulh, wd.off, true_and]; (repeat' split) <;> omega)), rfl⟩
theorem rproduct5 (x y : Int) (w : World) (x0 : 0 ≤ x) (x1 : x < 18446744073709551616) (y0 : 0 ≤ y) (y1 : y < 18446744073709551616) : Calls Tryz.prog 60 #[.int .i64 5, .int .u64 x, .int .u64 y] w fun e w' => e = .returned (.int .u64 (wd.mulh x y false false)) ∧ w = w' := by
  have hb := wd_hi_bd x y x0 x1 y0 y1
  go_enter Tryz.func60, Tryz.ntmps60
  go_wp2_with fail
  refine (rhigh_any x y _ x0 x1 y0 y1).mono ?_
  rintro e w' ⟨rfl, rfl⟩
  go_wp2
  go_ret
  exact ⟨bl.ret1 (bl.int_eq (by (try simp only [IntKind.wrap_u64]); simp only [wd.mulh, wd.off, Bool.false_eq_true, false_and, if_false]; omega)), rfl⟩
theorem rproduct6 (x y : Int) (w : World) (x0 : 0 ≤ x) (x1 : x < 18446744073709551616) (y0 : 0 ≤ y) (y1 : y < 18446744073709551616) : Calls Tryz.prog 60 #[.int .i64 6, .int .u64 x, .int .u64 y] w fun e w' => e = .returned (.int .u64 (wd.mulh x y true false)) ∧ w = w' := by
  have hb := wd_hi_bd x y x0 x1 y0 y1
  by_cases gx : 9223372036854775808 ≤ x
  · go_enter Tryz.func60, Tryz.ntmps60
    go_wp2_with fail
    refine (rhigh_any x y _ x0 x1 y0 y1).mono ?_
    rintro e w' ⟨rfl, rfl⟩
    go_wp2_with fail
    refine (rbelow_yes x _ gx).mono ?_
    rintro e w' ⟨rfl, rfl⟩
    go_wp2
    go_ret
    exact ⟨bl.ret1 (bl.int_eq (by (try simp only [IntKind.wrap_u64]); simp only [wd.mulh, wd.off, true_and, Bool.false_eq_true, false_and, if_false]; (repeat' split) <;> omega)), rfl⟩
  · go_enter Tryz.func60, Tryz.ntmps60
    go_wp2_with fail
    refine (rhigh_any x y _ x0 x1 y0 y1).mono ?_
    rintro e w' ⟨rfl, rfl⟩
    go_wp2_with fail
    refine (rbelow_no x _ (by omega)).mono ?_
    rintro e w' ⟨rfl, rfl⟩
    go_wp2
    go_ret
    exact ⟨bl.ret1 (bl.int_eq (by (try simp only [IntKind.wrap_u64]); simp only [wd.mulh, wd.off, true_and, Bool.false_eq_true, false_and, if_false]; (repeat' split) <;> omega)), rfl⟩
theorem rdivide7 (x y : Int) (w : World) (x0 : 0 ≤ x) (x1 : x < 18446744073709551616) (y0 : 0 ≤ y) (y1 : y < 18446744073709551616) : Calls Tryz.prog 61 #[.int .i64 7, .int .u64 x, .int .u64 y] w fun e w' => e = .returned (.int .u64 (wd.divS x y)) ∧ w = w' := by
  by_cases hy : y = 0
  · subst hy
    go_enter Tryz.func61, Tryz.ntmps61
    go_wp2
    go_ret
    exact ⟨rfl, rfl⟩
  · have hy0 : (y == 0) = false := by simpa using hy
    have HY := bl.hid hy
    have y2 : 1 ≤ y := by omega
    clear hy
    rcases wd.wrap64_cases x x0 x1 with ⟨gx, ex⟩ | ⟨gx, ex⟩
    · have EX := bl.hid ex
      clear ex
      rcases wd.wrap64_cases y y0 y1 with ⟨gy, ey⟩ | ⟨gy, ey⟩
      · have EY := bl.hid ey
        clear ey
        have q1 : 0 ≤ (x) / (y) := Int.ediv_nonneg (by omega) (by omega)
        have q2 : (x) / (y) ≤ x := Int.ediv_le_self _ (by omega)
        have q3 : 0 ≤ (x) % (y) := Int.emod_nonneg _ (by omega)
        have q4 : (x) % (y) < y := Int.emod_lt_of_pos _ (by omega)
        go_enter Tryz.func61, Tryz.ntmps61
        go_wp2_with fail
        refine (rbelow_no x _ gx).mono ?_
        rintro e w' ⟨rfl, rfl⟩
        go_wp2_with fail
        refine (rbelow_no y _ gy).mono ?_
        rintro e w' ⟨rfl, rfl⟩
        go_wp2_with fail
        refine (rbelow_no x _ gx).mono ?_
        rintro e w' ⟨rfl, rfl⟩
        go_wp2_with fail
        refine (rbelow_no y _ gy).mono ?_
        rintro e w' ⟨rfl, rfl⟩
        go_wp2
        go_ret
        exact ⟨bl.ret1 (bl.int_eq (by rw [wd.divS, if_neg HY.out, show wrap64 x = x by have := EX.out; omega, show wrap64 y = y by have := EY.out; omega, tdiv_pp _ _ (by omega)]; try omega)), rfl⟩
      · have EY := bl.hid ey
        clear ey
        have my : -y % 18446744073709551616 = 18446744073709551616 - y := by omega
        have q1 : 0 ≤ (x) / (18446744073709551616 - y) := Int.ediv_nonneg (by omega) (by omega)
        have q2 : (x) / (18446744073709551616 - y) ≤ x := Int.ediv_le_self _ (by omega)
        have q3 : 0 ≤ (x) % (18446744073709551616 - y) := Int.emod_nonneg _ (by omega)
        have q4 : (x) % (18446744073709551616 - y) < 18446744073709551616 - y := Int.emod_lt_of_pos _ (by omega)
        go_enter Tryz.func61, Tryz.ntmps61
        go_wp2_with fail
        refine (rbelow_no x _ gx).mono ?_
        rintro e w' ⟨rfl, rfl⟩
        go_wp2_with fail
        refine (rbelow_yes y _ gy).mono ?_
        rintro e w' ⟨rfl, rfl⟩
        go_wp2_with fail
        refine (rminus_any y _).mono ?_
        rw [my]
        rintro e w' ⟨rfl, rfl⟩
        go_wp2_with fail
        refine (rbelow_no x _ gx).mono ?_
        rintro e w' ⟨rfl, rfl⟩
        go_wp2_with fail
        refine (rbelow_yes y _ gy).mono ?_
        rintro e w' ⟨rfl, rfl⟩
        go_wp2_with fail
        refine (rminus_any _ _).mono ?_
        rintro e w' ⟨rfl, rfl⟩
        go_wp2
        go_ret
        exact ⟨bl.ret1 (bl.int_eq (by rw [wd.divS, if_neg HY.out, show wrap64 x = x by have := EX.out; omega, show wrap64 y = -(18446744073709551616 - y) by have := EY.out; omega, tdiv_pn _ _ (by omega)]; try omega)), rfl⟩
    · have EX := bl.hid ex
      clear ex
      rcases wd.wrap64_cases y y0 y1 with ⟨gy, ey⟩ | ⟨gy, ey⟩
      · have EY := bl.hid ey
        clear ey
        have mx : -x % 18446744073709551616 = 18446744073709551616 - x := by omega
        have q1 : 0 ≤ (18446744073709551616 - x) / (y) := Int.ediv_nonneg (by omega) (by omega)
        have q2 : (18446744073709551616 - x) / (y) ≤ 18446744073709551616 - x := Int.ediv_le_self _ (by omega)
        have q3 : 0 ≤ (18446744073709551616 - x) % (y) := Int.emod_nonneg _ (by omega)
        have q4 : (18446744073709551616 - x) % (y) < y := Int.emod_lt_of_pos _ (by omega)
        go_enter Tryz.func61, Tryz.ntmps61
        go_wp2_with fail
        refine (rbelow_yes x _ gx).mono ?_
        rintro e w' ⟨rfl, rfl⟩
        go_wp2_with fail
        refine (rminus_any x _).mono ?_
        rw [mx]
        rintro e w' ⟨rfl, rfl⟩
        go_wp2_with fail
        refine (rbelow_no y _ gy).mono ?_
        rintro e w' ⟨rfl, rfl⟩
        go_wp2_with fail
        refine (rbelow_yes x _ gx).mono ?_
        rintro e w' ⟨rfl, rfl⟩
        go_wp2_with fail
        refine (rbelow_no y _ gy).mono ?_
        rintro e w' ⟨rfl, rfl⟩
        go_wp2_with fail
        refine (rminus_any _ _).mono ?_
        rintro e w' ⟨rfl, rfl⟩
        go_wp2
        go_ret
        exact ⟨bl.ret1 (bl.int_eq (by rw [wd.divS, if_neg HY.out, show wrap64 x = -(18446744073709551616 - x) by have := EX.out; omega, show wrap64 y = y by have := EY.out; omega, tdiv_np _ _ (by omega)]; try omega)), rfl⟩
      · have EY := bl.hid ey
        clear ey
        have mx : -x % 18446744073709551616 = 18446744073709551616 - x := by omega
        have my : -y % 18446744073709551616 = 18446744073709551616 - y := by omega
        have q1 : 0 ≤ (18446744073709551616 - x) / (18446744073709551616 - y) := Int.ediv_nonneg (by omega) (by omega)
        have q2 : (18446744073709551616 - x) / (18446744073709551616 - y) ≤ 18446744073709551616 - x := Int.ediv_le_self _ (by omega)
        have q3 : 0 ≤ (18446744073709551616 - x) % (18446744073709551616 - y) := Int.emod_nonneg _ (by omega)
        have q4 : (18446744073709551616 - x) % (18446744073709551616 - y) < 18446744073709551616 - y := Int.emod_lt_of_pos _ (by omega)
        go_enter Tryz.func61, Tryz.ntmps61
        go_wp2_with fail
        refine (rbelow_yes x _ gx).mono ?_
        rintro e w' ⟨rfl, rfl⟩
        go_wp2_with fail
        refine (rminus_any x _).mono ?_
        rw [mx]
        rintro e w' ⟨rfl, rfl⟩
        go_wp2_with fail
        refine (rbelow_yes y _ gy).mono ?_
        rintro e w' ⟨rfl, rfl⟩
        go_wp2_with fail
        refine (rminus_any y _).mono ?_
        rw [my]
        rintro e w' ⟨rfl, rfl⟩
        go_wp2_with fail
        refine (rbelow_yes x _ gx).mono ?_
        rintro e w' ⟨rfl, rfl⟩
        go_wp2_with fail
        refine (rbelow_yes y _ gy).mono ?_
        rintro e w' ⟨rfl, rfl⟩
        go_wp2
        go_ret
        exact ⟨bl.ret1 (bl.int_eq (by rw [wd.divS, if_neg HY.out, show wrap64 x = -(18446744073709551616 - x) by have := EX.out; omega, show wrap64 y = -(18446744073709551616 - y) by have := EY.out; omega, tdiv_nn _ _ (by omega)]; try omega)), rfl⟩
theorem rdivide9 (x y : Int) (w : World) (x0 : 0 ≤ x) (x1 : x < 18446744073709551616) (y0 : 0 ≤ y) (y1 : y < 18446744073709551616) : Calls Tryz.prog 61 #[.int .i64 9, .int .u64 x, .int .u64 y] w fun e w' => e = .returned (.int .u64 (wd.remS x y)) ∧ w = w' := by
  by_cases hy : y = 0
  · subst hy
    go_enter Tryz.func61, Tryz.ntmps61
    go_wp2
    go_ret
    exact ⟨rfl, rfl⟩
  · have hy0 : (y == 0) = false := by simpa using hy
    have HY := bl.hid hy
    have y2 : 1 ≤ y := by omega
    clear hy
    rcases wd.wrap64_cases x x0 x1 with ⟨gx, ex⟩ | ⟨gx, ex⟩
    · have EX := bl.hid ex
      clear ex
      rcases wd.wrap64_cases y y0 y1 with ⟨gy, ey⟩ | ⟨gy, ey⟩
      · have EY := bl.hid ey
        clear ey
        have q1 : 0 ≤ (x) / (y) := Int.ediv_nonneg (by omega) (by omega)
        have q2 : (x) / (y) ≤ x := Int.ediv_le_self _ (by omega)
        have q3 : 0 ≤ (x) % (y) := Int.emod_nonneg _ (by omega)
        have q4 : (x) % (y) < y := Int.emod_lt_of_pos _ (by omega)
        go_enter Tryz.func61, Tryz.ntmps61
        go_wp2_with fail
        refine (rbelow_no x _ gx).mono ?_
        rintro e w' ⟨rfl, rfl⟩
        go_wp2_with fail
        refine (rbelow_no y _ gy).mono ?_
        rintro e w' ⟨rfl, rfl⟩
        go_wp2_with fail
        refine (rbelow_no x _ gx).mono ?_
        rintro e w' ⟨rfl, rfl⟩
        go_wp2
        go_ret
        exact ⟨bl.ret1 (bl.int_eq (by rw [wd.remS, if_neg HY.out, show wrap64 x = x by have := EX.out; omega, show wrap64 y = y by have := EY.out; omega, tmod_pp _ _ (by omega)]; try omega)), rfl⟩
      · have EY := bl.hid ey
        clear ey
        have my : -y % 18446744073709551616 = 18446744073709551616 - y := by omega
        have q1 : 0 ≤ (x) / (18446744073709551616 - y) := Int.ediv_nonneg (by omega) (by omega)
        have q2 : (x) / (18446744073709551616 - y) ≤ x := Int.ediv_le_self _ (by omega)
        have q3 : 0 ≤ (x) % (18446744073709551616 - y) := Int.emod_nonneg _ (by omega)
        have q4 : (x) % (18446744073709551616 - y) < 18446744073709551616 - y := Int.emod_lt_of_pos _ (by omega)
        go_enter Tryz.func61, Tryz.ntmps61
        go_wp2_with fail
        refine (rbelow_no x _ gx).mono ?_
        rintro e w' ⟨rfl, rfl⟩
        go_wp2_with fail
        refine (rbelow_yes y _ gy).mono ?_
        rintro e w' ⟨rfl, rfl⟩
        go_wp2_with fail
        refine (rminus_any y _).mono ?_
        rw [my]
        rintro e w' ⟨rfl, rfl⟩
        go_wp2_with fail
        refine (rbelow_no x _ gx).mono ?_
        rintro e w' ⟨rfl, rfl⟩
        go_wp2
        go_ret
        exact ⟨bl.ret1 (bl.int_eq (by rw [wd.remS, if_neg HY.out, show wrap64 x = x by have := EX.out; omega, show wrap64 y = -(18446744073709551616 - y) by have := EY.out; omega, tmod_pn _ _ (by omega)]; try omega)), rfl⟩
    · have EX := bl.hid ex
      clear ex
      rcases wd.wrap64_cases y y0 y1 with ⟨gy, ey⟩ | ⟨gy, ey⟩
      · have EY := bl.hid ey
        clear ey
        have mx : -x % 18446744073709551616 = 18446744073709551616 - x := by omega
        have q1 : 0 ≤ (18446744073709551616 - x) / (y) := Int.ediv_nonneg (by omega) (by omega)
        have q2 : (18446744073709551616 - x) / (y) ≤ 18446744073709551616 - x := Int.ediv_le_self _ (by omega)
        have q3 : 0 ≤ (18446744073709551616 - x) % (y) := Int.emod_nonneg _ (by omega)
        have q4 : (18446744073709551616 - x) % (y) < y := Int.emod_lt_of_pos _ (by omega)
        go_enter Tryz.func61, Tryz.ntmps61
        go_wp2_with fail
        refine (rbelow_yes x _ gx).mono ?_
        rintro e w' ⟨rfl, rfl⟩
        go_wp2_with fail
        refine (rminus_any x _).mono ?_
        rw [mx]
        rintro e w' ⟨rfl, rfl⟩
        go_wp2_with fail
        refine (rbelow_no y _ gy).mono ?_
        rintro e w' ⟨rfl, rfl⟩
        go_wp2_with fail
        refine (rbelow_yes x _ gx).mono ?_
        rintro e w' ⟨rfl, rfl⟩
        go_wp2_with fail
        refine (rminus_any _ _).mono ?_
        rintro e w' ⟨rfl, rfl⟩
        go_wp2
        go_ret
        exact ⟨bl.ret1 (bl.int_eq (by rw [wd.remS, if_neg HY.out, show wrap64 x = -(18446744073709551616 - x) by have := EX.out; omega, show wrap64 y = y by have := EY.out; omega, tmod_np _ _ (by omega)]; try omega)), rfl⟩
      · have EY := bl.hid ey
        clear ey
        have mx : -x % 18446744073709551616 = 18446744073709551616 - x := by omega
        have my : -y % 18446744073709551616 = 18446744073709551616 - y := by omega
        have q1 : 0 ≤ (18446744073709551616 - x) / (18446744073709551616 - y) := Int.ediv_nonneg (by omega) (by omega)
        have q2 : (18446744073709551616 - x) / (18446744073709551616 - y) ≤ 18446744073709551616 - x := Int.ediv_le_self _ (by omega)
        have q3 : 0 ≤ (18446744073709551616 - x) % (18446744073709551616 - y) := Int.emod_nonneg _ (by omega)
        have q4 : (18446744073709551616 - x) % (18446744073709551616 - y) < 18446744073709551616 - y := Int.emod_lt_of_pos _ (by omega)
        go_enter Tryz.func61, Tryz.ntmps61
        go_wp2_with fail
        refine (rbelow_yes x _ gx).mono ?_
        rintro e w' ⟨rfl, rfl⟩
        go_wp2_with fail
        refine (rminus_any x _).mono ?_
        rw [mx]
        rintro e w' ⟨rfl, rfl⟩
        go_wp2_with fail
        refine (rbelow_yes y _ gy).mono ?_
        rintro e w' ⟨rfl, rfl⟩
        go_wp2_with fail
        refine (rminus_any y _).mono ?_
        rw [my]
        rintro e w' ⟨rfl, rfl⟩
        go_wp2_with fail
        refine (rbelow_yes x _ gx).mono ?_
        rintro e w' ⟨rfl, rfl⟩
        go_wp2_with fail
        refine (rminus_any _ _).mono ?_
        rintro e w' ⟨rfl, rfl⟩
        go_wp2
        go_ret
        exact ⟨bl.ret1 (bl.int_eq (by rw [wd.remS, if_neg HY.out, show wrap64 x = -(18446744073709551616 - x) by have := EX.out; omega, show wrap64 y = -(18446744073709551616 - y) by have := EY.out; omega, tmod_nn _ _ (by omega)]; try omega)), rfl⟩
theorem rshift14 (x y : Int) (w : World) (x0 : 0 ≤ x) (x1 : x < 18446744073709551616) (y0 : 0 ≤ y) (y1 : y < 18446744073709551616) : Calls Tryz.prog 81 #[.int .i64 14, .int .u64 x, .int .u64 y] w fun e w' => e = .returned (.int .u64 (wd.shl x (y % 64))) ∧ w = w' := by
  have m0 : 0 ≤ y % 64 := by omega
  have m1 : y % 64 < 64 := by omega
  go_enter Tryz.func81, Tryz.ntmps81
  go_wp2
  go_loop [1, 7] (fun z n => ∃ k : Nat, (k : Int) ≤ y % 64 ∧ z = .int .u64 (wd.shl x k) ∧ n = .int .u64 (y % 64 - k)) (fun _ n => (intOf n).toNat)
  case atStart => exact ⟨0, m0, bl.int_eq (shl_zero x x0 x1).symm, bl.int_eq (by simp)⟩
  case round =>
    obtain ⟨k, hk, rfl, rfl⟩ := hrel
    have z0 : 0 ≤ wd.shl x k := Int.emod_nonneg _ (by decide)
    have z1 : wd.shl x k < 18446744073709551616 := Int.emod_lt_of_pos _ (by decide)
    by_cases hlt : (k : Int) < y % 64
    · go_wp2
      go_round
      case rel => exact ⟨k + 1, by omega, bl.int_eq (by rw [Int.natCast_add, Int.natCast_one]; rw [IntKind.wrap_u64, shl_succ]), bl.int_eq (by omega)⟩
      case measure => simp [intOf]; omega
    · go_wp2
      go_ret
      exact ⟨bl.ret1 (bl.int_eq (by rw [show (k : Int) = y % 64 by omega])), rfl⟩
theorem rshift15 (x y : Int) (w : World) (x0 : 0 ≤ x) (x1 : x < 18446744073709551616) (y0 : 0 ≤ y) (y1 : y < 18446744073709551616) : Calls Tryz.prog 81 #[.int .i64 15, .int .u64 x, .int .u64 y] w fun e w' => e = .returned (.int .u64 (wd.shr x (y % 64))) ∧ w = w' := by
  have m0 : 0 ≤ y % 64 := by omega
  have m1 : y % 64 < 64 := by omega
  go_enter Tryz.func81, Tryz.ntmps81
  go_wp2
  go_loop [1, 7] (fun z n => ∃ k : Nat, (k : Int) ≤ y % 64 ∧ z = .int .u64 (wd.shr x k) ∧ n = .int .u64 (y % 64 - k)) (fun _ n => (intOf n).toNat)
  case atStart => exact ⟨0, m0, bl.int_eq (shr_zero x).symm, bl.int_eq (by simp)⟩
  case round =>
    obtain ⟨k, hk, rfl, rfl⟩ := hrel
    have z0 := (shr_bd x k x0 x1).1
    have z1 := (shr_bd x k x0 x1).2
    by_cases hlt : (k : Int) < y % 64
    · go_wp2
      go_round
      case rel => exact ⟨k + 1, by omega, bl.int_eq (by rw [Int.natCast_add, Int.natCast_one]; rw [shr_succ]), bl.int_eq (by omega)⟩
      case measure => simp [intOf]; omega
    · go_wp2
      go_ret
      exact ⟨bl.ret1 (bl.int_eq (by rw [show (k : Int) = y % 64 by omega])), rfl⟩
theorem rshift16 (x y : Int) (w : World) (x0 : 0 ≤ x) (x1 : x < 18446744073709551616) (y0 : 0 ≤ y) (y1 : y < 18446744073709551616) : Calls Tryz.prog 81 #[.int .i64 16, .int .u64 x, .int .u64 y] w fun e w' => e = .returned (.int .u64 (wd.sar x (y % 64))) ∧ w = w' := by
  have m0 : 0 ≤ y % 64 := by omega
  have m1 : y % 64 < 64 := by omega
  go_enter Tryz.func81, Tryz.ntmps81
  go_wp2
  go_loop [1, 7] (fun z n => ∃ k : Nat, (k : Int) ≤ y % 64 ∧ z = .int .u64 (wd.sar x k) ∧ n = .int .u64 (y % 64 - k)) (fun _ n => (intOf n).toNat)
  case atStart => exact ⟨0, m0, bl.int_eq (sar_zero x x0 x1).symm, bl.int_eq (by simp)⟩
  case round =>
    obtain ⟨k, hk, rfl, rfl⟩ := hrel
    have z0 : 0 ≤ wd.sar x k := Int.emod_nonneg _ (by decide)
    have z1 : wd.sar x k < 18446744073709551616 := Int.emod_lt_of_pos _ (by decide)
    by_cases hlt : (k : Int) < y % 64
    · go_wp2
      go_round
      case rel => exact ⟨k + 1, by omega, bl.int_eq (by rw [Int.natCast_add, Int.natCast_one]; (try rw [IntKind.wrap_u64]); rw [sar_succ]; omega), bl.int_eq (by omega)⟩
      case measure => simp [intOf]; omega
    · go_wp2
      go_ret
      exact ⟨bl.ret1 (bl.int_eq (by rw [show (k : Int) = y % 64 by omega])), rfl⟩
end Go.Proofs.YtjjkocklpcdbkaaGreat
namespace Go.Proofs.YtjjkocklpcdbkaaGreat
open Go.RowKit
set_option linter.unusedVariables false
set_option maxRecDepth 100000

theorem rother11 (x y : Int) (w : World) (x0 : 0 ≤ x) (x1 : x < 18446744073709551616) (y0 : 0 ≤ y) (y1 : y < 18446744073709551616) : Calls Tryz.prog 62 #[.int .i64 11, .int .u64 x, .int .u64 y] w fun e w' => e = .returned (.tuple #[.int .u64 (wd.doV 11 x y), .int .i64 0]) ∧ w = w' := by
  go_enter Tryz.func62, Tryz.ntmps62
  go_wp2
  go_ret2
  exact ⟨rfl, rfl⟩
theorem rother12 (x y : Int) (w : World) (x0 : 0 ≤ x) (x1 : x < 18446744073709551616) (y0 : 0 ≤ y) (y1 : y < 18446744073709551616) : Calls Tryz.prog 62 #[.int .i64 12, .int .u64 x, .int .u64 y] w fun e w' => e = .returned (.tuple #[.int .u64 (wd.doV 12 x y), .int .i64 0]) ∧ w = w' := by
  go_enter Tryz.func62, Tryz.ntmps62
  go_wp2
  go_ret2
  exact ⟨rfl, rfl⟩
theorem rother13 (x y : Int) (w : World) (x0 : 0 ≤ x) (x1 : x < 18446744073709551616) (y0 : 0 ≤ y) (y1 : y < 18446744073709551616) : Calls Tryz.prog 62 #[.int .i64 13, .int .u64 x, .int .u64 y] w fun e w' => e = .returned (.tuple #[.int .u64 (wd.doV 13 x y), .int .i64 0]) ∧ w = w' := by
  go_enter Tryz.func62, Tryz.ntmps62
  go_wp2
  go_ret2
  exact ⟨rfl, rfl⟩
theorem rother14 (x y : Int) (w : World) (x0 : 0 ≤ x) (x1 : x < 18446744073709551616) (y0 : 0 ≤ y) (y1 : y < 18446744073709551616) : Calls Tryz.prog 62 #[.int .i64 14, .int .u64 x, .int .u64 y] w fun e w' => e = .returned (.tuple #[.int .u64 (wd.doV 14 x y), .int .i64 0]) ∧ w = w' := by
  go_enter Tryz.func62, Tryz.ntmps62
  go_wp2_with fail
  refine (rshift14 x y _ x0 x1 y0 y1).mono ?_
  rintro e w' ⟨rfl, rfl⟩
  go_wp2
  go_ret2
  exact ⟨rfl, rfl⟩
theorem rother15 (x y : Int) (w : World) (x0 : 0 ≤ x) (x1 : x < 18446744073709551616) (y0 : 0 ≤ y) (y1 : y < 18446744073709551616) : Calls Tryz.prog 62 #[.int .i64 15, .int .u64 x, .int .u64 y] w fun e w' => e = .returned (.tuple #[.int .u64 (wd.doV 15 x y), .int .i64 0]) ∧ w = w' := by
  go_enter Tryz.func62, Tryz.ntmps62
  go_wp2_with fail
  refine (rshift15 x y _ x0 x1 y0 y1).mono ?_
  rintro e w' ⟨rfl, rfl⟩
  go_wp2
  go_ret2
  exact ⟨rfl, rfl⟩
theorem rother16 (x y : Int) (w : World) (x0 : 0 ≤ x) (x1 : x < 18446744073709551616) (y0 : 0 ≤ y) (y1 : y < 18446744073709551616) : Calls Tryz.prog 62 #[.int .i64 16, .int .u64 x, .int .u64 y] w fun e w' => e = .returned (.tuple #[.int .u64 (wd.doV 16 x y), .int .i64 0]) ∧ w = w' := by
  go_enter Tryz.func62, Tryz.ntmps62
  go_wp2_with fail
  refine (rshift16 x y _ x0 x1 y0 y1).mono ?_
  rintro e w' ⟨rfl, rfl⟩
  go_wp2
  go_ret2
  exact ⟨rfl, rfl⟩
theorem rother17 (x y : Int) (w : World) (x0 : 0 ≤ x) (x1 : x < 18446744073709551616) (y0 : 0 ≤ y) (y1 : y < 18446744073709551616) : Calls Tryz.prog 62 #[.int .i64 17, .int .u64 x, .int .u64 y] w fun e w' => e = .returned (.tuple #[.int .u64 (wd.doV 17 x y), .int .i64 0]) ∧ w = w' := by
  go_enter Tryz.func62, Tryz.ntmps62
  go_wp2_with fail
  refine (rbit_any _ _).mono ?_
  rintro e w' ⟨rfl, rfl⟩
  go_wp2
  go_ret2
  exact ⟨bl.ret2 (bl.int_eq (congrArg wd.bit (decide_eq_decide.2 (by rw [IntKind.wrap_u64, IntKind.wrap_u64]; unfold wrap64; omega)))) rfl, rfl⟩
theorem rother18 (x y : Int) (w : World) (x0 : 0 ≤ x) (x1 : x < 18446744073709551616) (y0 : 0 ≤ y) (y1 : y < 18446744073709551616) : Calls Tryz.prog 62 #[.int .i64 18, .int .u64 x, .int .u64 y] w fun e w' => e = .returned (.tuple #[.int .u64 (wd.doV 18 x y), .int .i64 0]) ∧ w = w' := by
  go_enter Tryz.func62, Tryz.ntmps62
  go_wp2_with fail
  refine (rbit_any _ _).mono ?_
  rintro e w' ⟨rfl, rfl⟩
  go_wp2
  go_ret2
  exact ⟨rfl, rfl⟩
theorem rother19 (x y : Int) (w : World) (x0 : 0 ≤ x) (x1 : x < 18446744073709551616) (y0 : 0 ≤ y) (y1 : y < 18446744073709551616) : Calls Tryz.prog 62 #[.int .i64 19, .int .u64 x, .int .u64 y] w fun e w' => e = .returned (.tuple #[.int .u64 (wd.doV 19 x y), .int .i64 0]) ∧ w = w' := by
  go_enter Tryz.func62, Tryz.ntmps62
  go_wp2_with fail
  refine (rbit_any _ _).mono ?_
  rintro e w' ⟨rfl, rfl⟩
  go_wp2
  go_ret2
  exact ⟨rfl, rfl⟩
theorem rother20 (x y : Int) (w : World) (x0 : 0 ≤ x) (x1 : x < 18446744073709551616) (y0 : 0 ≤ y) (y1 : y < 18446744073709551616) : Calls Tryz.prog 62 #[.int .i64 20, .int .u64 x, .int .u64 y] w fun e w' => e = .returned (.tuple #[.int .u64 (wd.doV 20 x y), .int .i64 0]) ∧ w = w' := by
  go_enter Tryz.func62, Tryz.ntmps62
  go_wp2_with fail
  refine (rbit_any _ _).mono ?_
  rintro e w' ⟨rfl, rfl⟩
  go_wp2
  go_ret2
  exact ⟨rfl, rfl⟩
theorem rdo1 (x y : Int) (w : World) (x0 : 0 ≤ x) (x1 : x < 18446744073709551616) (y0 : 0 ≤ y) (y1 : y < 18446744073709551616) : Calls Tryz.prog 37 #[.int .i64 1, .int .u64 x, .int .u64 y] w fun e w' => e = .returned (.tuple #[.int .u64 (wd.doV 1 x y), .int .i64 0]) ∧ w = w' := by
  go_enter Tryz.func37, Tryz.ntmps37
  go_wp2
  go_ret2
  exact ⟨bl.ret2 (bl.int_eq (IntKind.wrap_u64 _)) rfl, rfl⟩
theorem rdo2 (x y : Int) (w : World) (x0 : 0 ≤ x) (x1 : x < 18446744073709551616) (y0 : 0 ≤ y) (y1 : y < 18446744073709551616) : Calls Tryz.prog 37 #[.int .i64 2, .int .u64 x, .int .u64 y] w fun e w' => e = .returned (.tuple #[.int .u64 (wd.doV 2 x y), .int .i64 0]) ∧ w = w' := by
  go_enter Tryz.func37, Tryz.ntmps37
  go_wp2
  go_ret2
  exact ⟨bl.ret2 (bl.int_eq (IntKind.wrap_u64 _)) rfl, rfl⟩
theorem rdo3 (x y : Int) (w : World) (x0 : 0 ≤ x) (x1 : x < 18446744073709551616) (y0 : 0 ≤ y) (y1 : y < 18446744073709551616) : Calls Tryz.prog 37 #[.int .i64 3, .int .u64 x, .int .u64 y] w fun e w' => e = .returned (.tuple #[.int .u64 (wd.doV 3 x y), .int .i64 0]) ∧ w = w' := by
  go_enter Tryz.func37, Tryz.ntmps37
  go_wp2
  go_ret2
  exact ⟨bl.ret2 (bl.int_eq (IntKind.wrap_u64 _)) rfl, rfl⟩
theorem rdo4 (x y : Int) (w : World) (x0 : 0 ≤ x) (x1 : x < 18446744073709551616) (y0 : 0 ≤ y) (y1 : y < 18446744073709551616) : Calls Tryz.prog 37 #[.int .i64 4, .int .u64 x, .int .u64 y] w fun e w' => e = .returned (.tuple #[.int .u64 (wd.doV 4 x y), .int .i64 0]) ∧ w = w' := by
  go_enter Tryz.func37, Tryz.ntmps37
  go_wp2_with fail
  refine (rproduct4 x y _ x0 x1 y0 y1).mono ?_
  rintro e w' ⟨rfl, rfl⟩
  go_wp2
  go_ret2
  exact ⟨rfl, rfl⟩
theorem rdo5 (x y : Int) (w : World) (x0 : 0 ≤ x) (x1 : x < 18446744073709551616) (y0 : 0 ≤ y) (y1 : y < 18446744073709551616) : Calls Tryz.prog 37 #[.int .i64 5, .int .u64 x, .int .u64 y] w fun e w' => e = .returned (.tuple #[.int .u64 (wd.doV 5 x y), .int .i64 0]) ∧ w = w' := by
  go_enter Tryz.func37, Tryz.ntmps37
  go_wp2_with fail
  refine (rproduct5 x y _ x0 x1 y0 y1).mono ?_
  rintro e w' ⟨rfl, rfl⟩
  go_wp2
  go_ret2
  exact ⟨rfl, rfl⟩
theorem rdo6 (x y : Int) (w : World) (x0 : 0 ≤ x) (x1 : x < 18446744073709551616) (y0 : 0 ≤ y) (y1 : y < 18446744073709551616) : Calls Tryz.prog 37 #[.int .i64 6, .int .u64 x, .int .u64 y] w fun e w' => e = .returned (.tuple #[.int .u64 (wd.doV 6 x y), .int .i64 0]) ∧ w = w' := by
  go_enter Tryz.func37, Tryz.ntmps37
  go_wp2_with fail
  refine (rproduct6 x y _ x0 x1 y0 y1).mono ?_
  rintro e w' ⟨rfl, rfl⟩
  go_wp2
  go_ret2
  exact ⟨rfl, rfl⟩
theorem rdo7 (x y : Int) (w : World) (x0 : 0 ≤ x) (x1 : x < 18446744073709551616) (y0 : 0 ≤ y) (y1 : y < 18446744073709551616) : Calls Tryz.prog 37 #[.int .i64 7, .int .u64 x, .int .u64 y] w fun e w' => e = .returned (.tuple #[.int .u64 (wd.doV 7 x y), .int .i64 0]) ∧ w = w' := by
  go_enter Tryz.func37, Tryz.ntmps37
  go_wp2_with fail
  refine (rdivide7 x y _ x0 x1 y0 y1).mono ?_
  rintro e w' ⟨rfl, rfl⟩
  go_wp2
  go_ret2
  exact ⟨rfl, rfl⟩
theorem rdo9 (x y : Int) (w : World) (x0 : 0 ≤ x) (x1 : x < 18446744073709551616) (y0 : 0 ≤ y) (y1 : y < 18446744073709551616) : Calls Tryz.prog 37 #[.int .i64 9, .int .u64 x, .int .u64 y] w fun e w' => e = .returned (.tuple #[.int .u64 (wd.doV 9 x y), .int .i64 0]) ∧ w = w' := by
  go_enter Tryz.func37, Tryz.ntmps37
  go_wp2_with fail
  refine (rdivide9 x y _ x0 x1 y0 y1).mono ?_
  rintro e w' ⟨rfl, rfl⟩
  go_wp2
  go_ret2
  exact ⟨rfl, rfl⟩
theorem rdo8 (x y : Int) (w : World) (x0 : 0 ≤ x) (x1 : x < 18446744073709551616) (y0 : 0 ≤ y) (y1 : y < 18446744073709551616) : Calls Tryz.prog 37 #[.int .i64 8, .int .u64 x, .int .u64 y] w fun e w' => e = .returned (.tuple #[.int .u64 (wd.doV 8 x y), .int .i64 0]) ∧ w = w' := by
  by_cases hy : y = 0
  · subst hy
    go_enter Tryz.func37, Tryz.ntmps37
    go_wp2
    go_ret2
    exact ⟨rfl, rfl⟩
  · have hy0 : (y == 0) = false := by simpa using hy
    have HY := bl.hid hy
    go_enter Tryz.func37, Tryz.ntmps37
    go_wp2
    go_ret2
    exact ⟨bl.ret2 (bl.int_eq (show _ = wd.divU x y by rw [wd.divU, if_neg HY.out])) rfl, rfl⟩
theorem rdo10 (x y : Int) (w : World) (x0 : 0 ≤ x) (x1 : x < 18446744073709551616) (y0 : 0 ≤ y) (y1 : y < 18446744073709551616) : Calls Tryz.prog 37 #[.int .i64 10, .int .u64 x, .int .u64 y] w fun e w' => e = .returned (.tuple #[.int .u64 (wd.doV 10 x y), .int .i64 0]) ∧ w = w' := by
  by_cases hy : y = 0
  · subst hy
    go_enter Tryz.func37, Tryz.ntmps37
    go_wp2
    go_ret2
    exact ⟨rfl, rfl⟩
  · have hy0 : (y == 0) = false := by simpa using hy
    have HY := bl.hid hy
    go_enter Tryz.func37, Tryz.ntmps37
    go_wp2
    go_ret2
    exact ⟨bl.ret2 (bl.int_eq (show _ = wd.remU x y by rw [wd.remU, if_neg HY.out])) rfl, rfl⟩
theorem rdo11 (x y : Int) (w : World) (x0 : 0 ≤ x) (x1 : x < 18446744073709551616) (y0 : 0 ≤ y) (y1 : y < 18446744073709551616) : Calls Tryz.prog 37 #[.int .i64 11, .int .u64 x, .int .u64 y] w fun e w' => e = .returned (.tuple #[.int .u64 (wd.doV 11 x y), .int .i64 0]) ∧ w = w' := by
  go_enter Tryz.func37, Tryz.ntmps37
  go_wp2_with fail
  refine (rother11 x y _ x0 x1 y0 y1).mono ?_
  rintro e w' ⟨rfl, rfl⟩
  go_wp2
  go_ret2
  exact ⟨rfl, rfl⟩
theorem rdo12 (x y : Int) (w : World) (x0 : 0 ≤ x) (x1 : x < 18446744073709551616) (y0 : 0 ≤ y) (y1 : y < 18446744073709551616) : Calls Tryz.prog 37 #[.int .i64 12, .int .u64 x, .int .u64 y] w fun e w' => e = .returned (.tuple #[.int .u64 (wd.doV 12 x y), .int .i64 0]) ∧ w = w' := by
  go_enter Tryz.func37, Tryz.ntmps37
  go_wp2_with fail
  refine (rother12 x y _ x0 x1 y0 y1).mono ?_
  rintro e w' ⟨rfl, rfl⟩
  go_wp2
  go_ret2
  exact ⟨rfl, rfl⟩
theorem rdo13 (x y : Int) (w : World) (x0 : 0 ≤ x) (x1 : x < 18446744073709551616) (y0 : 0 ≤ y) (y1 : y < 18446744073709551616) : Calls Tryz.prog 37 #[.int .i64 13, .int .u64 x, .int .u64 y] w fun e w' => e = .returned (.tuple #[.int .u64 (wd.doV 13 x y), .int .i64 0]) ∧ w = w' := by
  go_enter Tryz.func37, Tryz.ntmps37
  go_wp2_with fail
  refine (rother13 x y _ x0 x1 y0 y1).mono ?_
  rintro e w' ⟨rfl, rfl⟩
  go_wp2
  go_ret2
  exact ⟨rfl, rfl⟩
theorem rdo14 (x y : Int) (w : World) (x0 : 0 ≤ x) (x1 : x < 18446744073709551616) (y0 : 0 ≤ y) (y1 : y < 18446744073709551616) : Calls Tryz.prog 37 #[.int .i64 14, .int .u64 x, .int .u64 y] w fun e w' => e = .returned (.tuple #[.int .u64 (wd.doV 14 x y), .int .i64 0]) ∧ w = w' := by
  go_enter Tryz.func37, Tryz.ntmps37
  go_wp2_with fail
  refine (rother14 x y _ x0 x1 y0 y1).mono ?_
  rintro e w' ⟨rfl, rfl⟩
  go_wp2
  go_ret2
  exact ⟨rfl, rfl⟩
theorem rdo15 (x y : Int) (w : World) (x0 : 0 ≤ x) (x1 : x < 18446744073709551616) (y0 : 0 ≤ y) (y1 : y < 18446744073709551616) : Calls Tryz.prog 37 #[.int .i64 15, .int .u64 x, .int .u64 y] w fun e w' => e = .returned (.tuple #[.int .u64 (wd.doV 15 x y), .int .i64 0]) ∧ w = w' := by
  go_enter Tryz.func37, Tryz.ntmps37
  go_wp2_with fail
  refine (rother15 x y _ x0 x1 y0 y1).mono ?_
  rintro e w' ⟨rfl, rfl⟩
  go_wp2
  go_ret2
  exact ⟨rfl, rfl⟩
theorem rdo16 (x y : Int) (w : World) (x0 : 0 ≤ x) (x1 : x < 18446744073709551616) (y0 : 0 ≤ y) (y1 : y < 18446744073709551616) : Calls Tryz.prog 37 #[.int .i64 16, .int .u64 x, .int .u64 y] w fun e w' => e = .returned (.tuple #[.int .u64 (wd.doV 16 x y), .int .i64 0]) ∧ w = w' := by
  go_enter Tryz.func37, Tryz.ntmps37
  go_wp2_with fail
  refine (rother16 x y _ x0 x1 y0 y1).mono ?_
  rintro e w' ⟨rfl, rfl⟩
  go_wp2
  go_ret2
  exact ⟨rfl, rfl⟩
theorem rdo17 (x y : Int) (w : World) (x0 : 0 ≤ x) (x1 : x < 18446744073709551616) (y0 : 0 ≤ y) (y1 : y < 18446744073709551616) : Calls Tryz.prog 37 #[.int .i64 17, .int .u64 x, .int .u64 y] w fun e w' => e = .returned (.tuple #[.int .u64 (wd.doV 17 x y), .int .i64 0]) ∧ w = w' := by
  go_enter Tryz.func37, Tryz.ntmps37
  go_wp2_with fail
  refine (rother17 x y _ x0 x1 y0 y1).mono ?_
  rintro e w' ⟨rfl, rfl⟩
  go_wp2
  go_ret2
  exact ⟨rfl, rfl⟩
theorem rdo18 (x y : Int) (w : World) (x0 : 0 ≤ x) (x1 : x < 18446744073709551616) (y0 : 0 ≤ y) (y1 : y < 18446744073709551616) : Calls Tryz.prog 37 #[.int .i64 18, .int .u64 x, .int .u64 y] w fun e w' => e = .returned (.tuple #[.int .u64 (wd.doV 18 x y), .int .i64 0]) ∧ w = w' := by
  go_enter Tryz.func37, Tryz.ntmps37
  go_wp2_with fail
  refine (rother18 x y _ x0 x1 y0 y1).mono ?_
  rintro e w' ⟨rfl, rfl⟩
  go_wp2
  go_ret2
  exact ⟨rfl, rfl⟩
theorem rdo19 (x y : Int) (w : World) (x0 : 0 ≤ x) (x1 : x < 18446744073709551616) (y0 : 0 ≤ y) (y1 : y < 18446744073709551616) : Calls Tryz.prog 37 #[.int .i64 19, .int .u64 x, .int .u64 y] w fun e w' => e = .returned (.tuple #[.int .u64 (wd.doV 19 x y), .int .i64 0]) ∧ w = w' := by
  go_enter Tryz.func37, Tryz.ntmps37
  go_wp2_with fail
  refine (rother19 x y _ x0 x1 y0 y1).mono ?_
  rintro e w' ⟨rfl, rfl⟩
  go_wp2
  go_ret2
  exact ⟨rfl, rfl⟩
theorem rdo20 (x y : Int) (w : World) (x0 : 0 ≤ x) (x1 : x < 18446744073709551616) (y0 : 0 ≤ y) (y1 : y < 18446744073709551616) : Calls Tryz.prog 37 #[.int .i64 20, .int .u64 x, .int .u64 y] w fun e w' => e = .returned (.tuple #[.int .u64 (wd.doV 20 x y), .int .i64 0]) ∧ w = w' := by
  go_enter Tryz.func37, Tryz.ntmps37
  go_wp2_with fail
  refine (rother20 x y _ x0 x1 y0 y1).mono ?_
  rintro e w' ⟨rfl, rfl⟩
  go_wp2
  go_ret2
  exact ⟨rfl, rfl⟩
theorem rdo_no (f x y : Int) (w : World) (h : f < 1 ∨ 20 < f) : Calls Tryz.prog 37 #[.int .i64 f, .int .u64 x, .int .u64 y] w fun e w' => e = .returned (.tuple #[.int .u64 0, .int .i64 2]) ∧ w = w' := by
  have n1 : (f == 1) = false := by simp; omega
  have n2 : (f == 2) = false := by simp; omega
  have n3 : (f == 3) = false := by simp; omega
  have n4 : (f == 4) = false := by simp; omega
  have n5 : (f == 5) = false := by simp; omega
  have n6 : (f == 6) = false := by simp; omega
  have n7 : (f == 7) = false := by simp; omega
  have n8 : (f == 8) = false := by simp; omega
  have n9 : (f == 9) = false := by simp; omega
  have n10 : (f == 10) = false := by simp; omega
  have n11 : (f == 11) = false := by simp; omega
  have n12 : (f == 12) = false := by simp; omega
  have n13 : (f == 13) = false := by simp; omega
  have n14 : (f == 14) = false := by simp; omega
  have n15 : (f == 15) = false := by simp; omega
  have n16 : (f == 16) = false := by simp; omega
  have n17 : (f == 17) = false := by simp; omega
  have n18 : (f == 18) = false := by simp; omega
  have n19 : (f == 19) = false := by simp; omega
  have n20 : (f == 20) = false := by simp; omega
  clear h
  go_enter Tryz.func37, Tryz.ntmps37
  go_wp2
  go_ret2
  exact ⟨rfl, rfl⟩
theorem rdo_any (f x y : Int) (w : World) (x0 : 0 ≤ x) (x1 : x < 18446744073709551616) (y0 : 0 ≤ y) (y1 : y < 18446744073709551616) :
    Calls Tryz.prog 37 #[.int .i64 f, .int .u64 x, .int .u64 y] w fun e w' => e = .returned (.tuple #[.int .u64 (wd.doV f x y), .int .i64 (wd.doE f)]) ∧ w = w' := by
  by_cases h : 1 ≤ f ∧ f ≤ 20
  · rw [wd.doE_of h]
    have : f = 1 ∨ f = 2 ∨ f = 3 ∨ f = 4 ∨ f = 5 ∨ f = 6 ∨ f = 7 ∨ f = 8 ∨ f = 9 ∨ f = 10 ∨ f = 11 ∨ f = 12 ∨ f = 13 ∨ f = 14 ∨ f = 15 ∨ f = 16 ∨ f = 17 ∨ f = 18 ∨ f = 19 ∨ f = 20 := by omega
    rcases this with rfl | rfl | rfl | rfl | rfl | rfl | rfl | rfl | rfl | rfl | rfl | rfl | rfl | rfl | rfl | rfl | rfl | rfl | rfl | rfl
    · exact rdo1 x y w x0 x1 y0 y1
    · exact rdo2 x y w x0 x1 y0 y1
    · exact rdo3 x y w x0 x1 y0 y1
    · exact rdo4 x y w x0 x1 y0 y1
    · exact rdo5 x y w x0 x1 y0 y1
    · exact rdo6 x y w x0 x1 y0 y1
    · exact rdo7 x y w x0 x1 y0 y1
    · exact rdo8 x y w x0 x1 y0 y1
    · exact rdo9 x y w x0 x1 y0 y1
    · exact rdo10 x y w x0 x1 y0 y1
    · exact rdo11 x y w x0 x1 y0 y1
    · exact rdo12 x y w x0 x1 y0 y1
    · exact rdo13 x y w x0 x1 y0 y1
    · exact rdo14 x y w x0 x1 y0 y1
    · exact rdo15 x y w x0 x1 y0 y1
    · exact rdo16 x y w x0 x1 y0 y1
    · exact rdo17 x y w x0 x1 y0 y1
    · exact rdo18 x y w x0 x1 y0 y1
    · exact rdo19 x y w x0 x1 y0 y1
    · exact rdo20 x y w x0 x1 y0 y1
  · rw [wd.doE_not h, wd.doV_not h]
    exact rdo_no f x y w (by omega)
theorem zext1 (x : Int) (w : World) (x0 : 0 ≤ x) (x1 : x < 18446744073709551616) : Calls Tryz.prog 122 #[.int .u64 x, .int .i64 1] w fun e w' => e = .returned (.int .u64 (wd.zx x 1)) ∧ w = w' := by
  go_enter Tryz.func122, Tryz.ntmps122
  go_wp2
  go_ret
  exact ⟨bl.ret1 (bl.int_eq (by (try simp only [IntKind.wrap_u64]); simp [wd.zx]; try omega)), rfl⟩
theorem zext2 (x : Int) (w : World) (x0 : 0 ≤ x) (x1 : x < 18446744073709551616) : Calls Tryz.prog 122 #[.int .u64 x, .int .i64 2] w fun e w' => e = .returned (.int .u64 (wd.zx x 2)) ∧ w = w' := by
  go_enter Tryz.func122, Tryz.ntmps122
  go_wp2
  go_ret
  exact ⟨bl.ret1 (bl.int_eq (by (try simp only [IntKind.wrap_u64]); simp [wd.zx]; try omega)), rfl⟩
theorem zext4 (x : Int) (w : World) (x0 : 0 ≤ x) (x1 : x < 18446744073709551616) : Calls Tryz.prog 122 #[.int .u64 x, .int .i64 4] w fun e w' => e = .returned (.int .u64 (wd.zx x 4)) ∧ w = w' := by
  go_enter Tryz.func122, Tryz.ntmps122
  go_wp2
  go_ret
  exact ⟨bl.ret1 (bl.int_eq (by (try simp only [IntKind.wrap_u64]); simp [wd.zx]; try omega)), rfl⟩
theorem zext8 (x : Int) (w : World) (x0 : 0 ≤ x) (x1 : x < 18446744073709551616) : Calls Tryz.prog 122 #[.int .u64 x, .int .i64 8] w fun e w' => e = .returned (.int .u64 (wd.zx x 8)) ∧ w = w' := by
  go_enter Tryz.func122, Tryz.ntmps122
  go_wp2
  go_ret
  exact ⟨bl.ret1 (bl.int_eq (by (try simp only [IntKind.wrap_u64]); simp [wd.zx]; try omega)), rfl⟩
theorem zext_no (x n : Int) (w : World) (h : ¬ (n = 1 ∨ n = 2 ∨ n = 4 ∨ n = 8)) : Calls Tryz.prog 122 #[.int .u64 x, .int .i64 n] w fun e w' => e = .returned (.int .u64 0) ∧ w = w' := by
  have n1 : (n == 1) = false := by simp; omega
  have n2 : (n == 2) = false := by simp; omega
  have n4 : (n == 4) = false := by simp; omega
  have n8 : (n == 8) = false := by simp; omega
  clear h
  go_enter Tryz.func122, Tryz.ntmps122
  go_wp2
  go_ret
  exact ⟨rfl, rfl⟩
theorem zext_any (x n : Int) (w : World) (x0 : 0 ≤ x) (x1 : x < 18446744073709551616) : Calls Tryz.prog 122 #[.int .u64 x, .int .i64 n] w fun e w' => e = .returned (.int .u64 (wd.zx x n)) ∧ w = w' := by
  by_cases h : n = 1 ∨ n = 2 ∨ n = 4 ∨ n = 8
  · rcases h with rfl | rfl | rfl | rfl
    · exact zext1 x w x0 x1
    · exact zext2 x w x0 x1
    · exact zext4 x w x0 x1
    · exact zext8 x w x0 x1
  · rw [show wd.zx x n = 0 by unfold wd.zx; repeat (rw [if_neg (by omega)])]
    exact zext_no x n w h
theorem rzext1 (x : Int) (w : World) (x0 : 0 ≤ x) (x1 : x < 18446744073709551616) : Calls Tryz.prog 63 #[.int .u64 x, .int .i64 1] w fun e w' => e = .returned (.int .u64 (wd.zx x 1)) ∧ w = w' := by
  go_enter Tryz.func63, Tryz.ntmps63
  go_wp2
  go_ret
  exact ⟨bl.ret1 (bl.int_eq (by (try simp only [IntKind.wrap_u64]); simp [wd.zx]; try omega)), rfl⟩
theorem rzext2 (x : Int) (w : World) (x0 : 0 ≤ x) (x1 : x < 18446744073709551616) : Calls Tryz.prog 63 #[.int .u64 x, .int .i64 2] w fun e w' => e = .returned (.int .u64 (wd.zx x 2)) ∧ w = w' := by
  go_enter Tryz.func63, Tryz.ntmps63
  go_wp2
  go_ret
  exact ⟨bl.ret1 (bl.int_eq (by (try simp only [IntKind.wrap_u64]); simp [wd.zx]; try omega)), rfl⟩
theorem rzext4 (x : Int) (w : World) (x0 : 0 ≤ x) (x1 : x < 18446744073709551616) : Calls Tryz.prog 63 #[.int .u64 x, .int .i64 4] w fun e w' => e = .returned (.int .u64 (wd.zx x 4)) ∧ w = w' := by
  go_enter Tryz.func63, Tryz.ntmps63
  go_wp2
  go_ret
  exact ⟨bl.ret1 (bl.int_eq (by (try simp only [IntKind.wrap_u64]); simp [wd.zx]; try omega)), rfl⟩
theorem rzext8 (x : Int) (w : World) (x0 : 0 ≤ x) (x1 : x < 18446744073709551616) : Calls Tryz.prog 63 #[.int .u64 x, .int .i64 8] w fun e w' => e = .returned (.int .u64 (wd.zx x 8)) ∧ w = w' := by
  go_enter Tryz.func63, Tryz.ntmps63
  go_wp2
  go_ret
  exact ⟨bl.ret1 (bl.int_eq (by (try simp only [IntKind.wrap_u64]); simp [wd.zx]; try omega)), rfl⟩
theorem rzext_no (x n : Int) (w : World) (h : ¬ (n = 1 ∨ n = 2 ∨ n = 4 ∨ n = 8)) : Calls Tryz.prog 63 #[.int .u64 x, .int .i64 n] w fun e w' => e = .returned (.int .u64 0) ∧ w = w' := by
  have n1 : (n == 1) = false := by simp; omega
  have n2 : (n == 2) = false := by simp; omega
  have n4 : (n == 4) = false := by simp; omega
  have n8 : (n == 8) = false := by simp; omega
  clear h
  go_enter Tryz.func63, Tryz.ntmps63
  go_wp2
  go_ret
  exact ⟨rfl, rfl⟩
theorem rzext_any (x n : Int) (w : World) (x0 : 0 ≤ x) (x1 : x < 18446744073709551616) : Calls Tryz.prog 63 #[.int .u64 x, .int .i64 n] w fun e w' => e = .returned (.int .u64 (wd.zx x n)) ∧ w = w' := by
  by_cases h : n = 1 ∨ n = 2 ∨ n = 4 ∨ n = 8
  · rcases h with rfl | rfl | rfl | rfl
    · exact rzext1 x w x0 x1
    · exact rzext2 x w x0 x1
    · exact rzext4 x w x0 x1
    · exact rzext8 x w x0 x1
  · rw [show wd.zx x n = 0 by unfold wd.zx; repeat (rw [if_neg (by omega)])]
    exact rzext_no x n w h
end Go.Proofs.YtjjkocklpcdbkaaGreat
namespace Go.Proofs.YtjjkocklpcdbkaaGreat
open Go.RowKit
set_option linter.unusedVariables false
set_option maxRecDepth 100000

theorem sx_1 (x : Int) : wd.sx x 1 = if 128 ≤ x % 256 then x % 256 + 18446744073709551360 else x % 256 := rfl
theorem sx_2 (x : Int) : wd.sx x 2 = if 32768 ≤ x % 65536 then x % 65536 + 18446744073709486080 else x % 65536 := rfl
theorem sx_4 (x : Int) : wd.sx x 4 = if 2147483648 ≤ x % 4294967296 then x % 4294967296 + 18446744069414584320 else x % 4294967296 := rfl
theorem sx_8 (x : Int) : wd.sx x 8 = x := rfl
theorem zx_4 (x : Int) : wd.zx x 4 = x % 4294967296 := rfl
theorem sx_zx (x : Int) : wd.sx (wd.zx x 4) 4 = wd.sx x 4 := by simp only [sx_4, zx_4]; (repeat' split) <;> omega
theorem sx4_mod (x : Int) : wd.sx x 4 % 32 = wd.zx x 4 % 32 := by simp only [sx_4, zx_4]; (repeat' split) <;> omega
theorem zx4_bd (x : Int) : 0 ≤ wd.zx x 4 ∧ wd.zx x 4 < 18446744073709551616 := by simp only [zx_4]; omega
theorem sx4_bd (x : Int) : 0 ≤ wd.sx x 4 ∧ wd.sx x 4 < 18446744073709551616 := by simp only [sx_4]; (repeat' split) <;> omega
theorem zx_bd (x n : Int) (x0 : 0 ≤ x) (x1 : x < 18446744073709551616) : 0 ≤ wd.zx x n ∧ wd.zx x n < 18446744073709551616 := by unfold wd.zx; (repeat' split) <;> omega
theorem sx_bd (x n : Int) (x0 : 0 ≤ x) (x1 : x < 18446744073709551616) : 0 ≤ wd.sx x n ∧ wd.sx x n < 18446744073709551616 := by unfold wd.sx; (repeat' split) <;> omega
theorem bit_bd (b : Bool) : 0 ≤ wd.bit b ∧ wd.bit b < 18446744073709551616 := by cases b <;> decide
theorem em_bd (x : Int) : 0 ≤ x % 18446744073709551616 ∧ x % 18446744073709551616 < 18446744073709551616 := by omega
theorem doV_bd (f x y : Int) (x0 : 0 ≤ x) (x1 : x < 18446744073709551616) (y0 : 0 ≤ y) (y1 : y < 18446744073709551616) : 0 ≤ wd.doV f x y ∧ wd.doV f x y < 18446744073709551616 := by
  unfold wd.doV
  by_cases h : f = 1
  · rw [if_pos h]; exact em_bd _
  rw [if_neg h]; clear h
  by_cases h : f = 2
  · rw [if_pos h]; exact em_bd _
  rw [if_neg h]; clear h
  by_cases h : f = 3
  · rw [if_pos h]; exact em_bd _
  rw [if_neg h]; clear h
  by_cases h : f = 4
  · rw [if_pos h]; exact em_bd _
  rw [if_neg h]; clear h
  by_cases h : f = 5
  · rw [if_pos h]; exact em_bd _
  rw [if_neg h]; clear h
  by_cases h : f = 6
  · rw [if_pos h]; exact em_bd _
  rw [if_neg h]; clear h
  by_cases h : f = 7
  · rw [if_pos h]; unfold wd.divS; split
    · omega
    · exact em_bd _
  rw [if_neg h]; clear h
  by_cases h : f = 8
  · rw [if_pos h]; unfold wd.divU; split
    · omega
    · exact ⟨Int.ediv_nonneg x0 y0, Int.lt_of_le_of_lt (Int.ediv_le_self _ x0) x1⟩
  rw [if_neg h]; clear h
  by_cases h : f = 9
  · rw [if_pos h]; unfold wd.remS; split
    · omega
    · exact em_bd _
  rw [if_neg h]; clear h
  by_cases h : f = 10
  · rw [if_pos h]; unfold wd.remU; split
    · omega
    · exact ⟨Int.emod_nonneg _ (by omega), Int.lt_trans (Int.emod_lt_of_pos _ (by omega)) y1⟩
  rw [if_neg h]; clear h
  by_cases h : f = 11
  · rw [if_pos h, u64_and x y x0 x1 y0 y1]
    have : x.toNat &&& y.toNat < 2 ^ 64 := Nat.and_lt_two_pow _ (by omega)
    omega
  rw [if_neg h]; clear h
  by_cases h : f = 12
  · rw [if_pos h, u64_or x y x0 x1 y0 y1]
    have : x.toNat ||| y.toNat < 2 ^ 64 := Nat.or_lt_two_pow (by omega) (by omega)
    omega
  rw [if_neg h]; clear h
  by_cases h : f = 13
  · rw [if_pos h, u64_xor x y x0 x1 y0 y1]
    have : x.toNat ^^^ y.toNat < 2 ^ 64 := Nat.xor_lt_two_pow (by omega) (by omega)
    omega
  rw [if_neg h]; clear h
  by_cases h : f = 14
  · rw [if_pos h]; exact em_bd _
  rw [if_neg h]; clear h
  by_cases h : f = 15
  · rw [if_pos h]; exact shr_bd x _ x0 x1
  rw [if_neg h]; clear h
  by_cases h : f = 16
  · rw [if_pos h]; exact em_bd _
  rw [if_neg h]; clear h
  by_cases h : f = 17
  · rw [if_pos h]; exact bit_bd _
  rw [if_neg h]; clear h
  by_cases h : f = 18
  · rw [if_pos h]; exact bit_bd _
  rw [if_neg h]; clear h
  by_cases h : f = 19
  · rw [if_pos h]; exact bit_bd _
  rw [if_neg h]; clear h
  by_cases h : f = 20
  · rw [if_pos h]; exact bit_bd _
  rw [if_neg h]; clear h
  omega

theorem sext1 (x : Int) (w : World) (x0 : 0 ≤ x) (x1 : x < 18446744073709551616) : Calls Tryz.prog 104 #[.int .u64 x, .int .i64 1] w fun e w' => e = .returned (.int .u64 (wd.sx x 1)) ∧ w = w' := by
  go_enter Tryz.func104, Tryz.ntmps104
  go_wp2
  all_goals (go_ret; exact ⟨bl.ret1 (bl.int_eq (by (try simp only [IntKind.wrap_u64]); (try simp only [wrap64]); rw [sx_1]; try ((repeat' split) <;> omega))), rfl⟩)
theorem sext2 (x : Int) (w : World) (x0 : 0 ≤ x) (x1 : x < 18446744073709551616) : Calls Tryz.prog 104 #[.int .u64 x, .int .i64 2] w fun e w' => e = .returned (.int .u64 (wd.sx x 2)) ∧ w = w' := by
  go_enter Tryz.func104, Tryz.ntmps104
  go_wp2
  all_goals (go_ret; exact ⟨bl.ret1 (bl.int_eq (by (try simp only [IntKind.wrap_u64]); (try simp only [wrap64]); rw [sx_2]; try ((repeat' split) <;> omega))), rfl⟩)
theorem sext4 (x : Int) (w : World) (x0 : 0 ≤ x) (x1 : x < 18446744073709551616) : Calls Tryz.prog 104 #[.int .u64 x, .int .i64 4] w fun e w' => e = .returned (.int .u64 (wd.sx x 4)) ∧ w = w' := by
  go_enter Tryz.func104, Tryz.ntmps104
  go_wp2
  all_goals (go_ret; exact ⟨bl.ret1 (bl.int_eq (by (try simp only [IntKind.wrap_u64]); (try simp only [wrap64]); rw [sx_4]; try ((repeat' split) <;> omega))), rfl⟩)
theorem sext8 (x : Int) (w : World) (x0 : 0 ≤ x) (x1 : x < 18446744073709551616) : Calls Tryz.prog 104 #[.int .u64 x, .int .i64 8] w fun e w' => e = .returned (.int .u64 (wd.sx x 8)) ∧ w = w' := by
  go_enter Tryz.func104, Tryz.ntmps104
  go_wp2
  all_goals (go_ret; exact ⟨bl.ret1 (bl.int_eq (by (try simp only [IntKind.wrap_u64]); (try simp only [wrap64]); rw [sx_8]; try ((repeat' split) <;> omega))), rfl⟩)
theorem sext_no (x n : Int) (w : World) (h : ¬ (n = 1 ∨ n = 2 ∨ n = 4 ∨ n = 8)) : Calls Tryz.prog 104 #[.int .u64 x, .int .i64 n] w fun e w' => e = .returned (.int .u64 0) ∧ w = w' := by
  have n1 : (n == 1) = false := by simp; omega
  have n2 : (n == 2) = false := by simp; omega
  have n4 : (n == 4) = false := by simp; omega
  have n8 : (n == 8) = false := by simp; omega
  clear h
  go_enter Tryz.func104, Tryz.ntmps104
  go_wp2
  go_ret
  exact ⟨rfl, rfl⟩
theorem sext_any (x n : Int) (w : World) (x0 : 0 ≤ x) (x1 : x < 18446744073709551616) : Calls Tryz.prog 104 #[.int .u64 x, .int .i64 n] w fun e w' => e = .returned (.int .u64 (wd.sx x n)) ∧ w = w' := by
  by_cases h : n = 1 ∨ n = 2 ∨ n = 4 ∨ n = 8
  · rcases h with rfl | rfl | rfl | rfl
    · exact sext1 x w x0 x1
    · exact sext2 x w x0 x1
    · exact sext4 x w x0 x1
    · exact sext8 x w x0 x1
  · rw [show wd.sx x n = 0 by unfold wd.sx; repeat (rw [if_neg (by omega)])]
    exact sext_no x n w h
theorem rsext1 (x : Int) (w : World) (x0 : 0 ≤ x) (x1 : x < 18446744073709551616) : Calls Tryz.prog 57 #[.int .u64 x, .int .i64 1] w fun e w' => e = .returned (.int .u64 (wd.sx x 1)) ∧ w = w' := by
  go_enter Tryz.func57, Tryz.ntmps57
  go_wp2
  all_goals (go_ret; exact ⟨bl.ret1 (bl.int_eq (by (try simp only [IntKind.wrap_u64]); (try simp only [wrap64]); rw [sx_1]; try ((repeat' split) <;> omega))), rfl⟩)
theorem rsext2 (x : Int) (w : World) (x0 : 0 ≤ x) (x1 : x < 18446744073709551616) : Calls Tryz.prog 57 #[.int .u64 x, .int .i64 2] w fun e w' => e = .returned (.int .u64 (wd.sx x 2)) ∧ w = w' := by
  go_enter Tryz.func57, Tryz.ntmps57
  go_wp2
  all_goals (go_ret; exact ⟨bl.ret1 (bl.int_eq (by (try simp only [IntKind.wrap_u64]); (try simp only [wrap64]); rw [sx_2]; try ((repeat' split) <;> omega))), rfl⟩)
theorem rsext4 (x : Int) (w : World) (x0 : 0 ≤ x) (x1 : x < 18446744073709551616) : Calls Tryz.prog 57 #[.int .u64 x, .int .i64 4] w fun e w' => e = .returned (.int .u64 (wd.sx x 4)) ∧ w = w' := by
  go_enter Tryz.func57, Tryz.ntmps57
  go_wp2
  all_goals (go_ret; exact ⟨bl.ret1 (bl.int_eq (by (try simp only [IntKind.wrap_u64]); (try simp only [wrap64]); rw [sx_4]; try ((repeat' split) <;> omega))), rfl⟩)
theorem rsext8 (x : Int) (w : World) (x0 : 0 ≤ x) (x1 : x < 18446744073709551616) : Calls Tryz.prog 57 #[.int .u64 x, .int .i64 8] w fun e w' => e = .returned (.int .u64 (wd.sx x 8)) ∧ w = w' := by
  go_enter Tryz.func57, Tryz.ntmps57
  go_wp2
  all_goals (go_ret; exact ⟨bl.ret1 (bl.int_eq (by (try simp only [IntKind.wrap_u64]); (try simp only [wrap64]); rw [sx_8]; try ((repeat' split) <;> omega))), rfl⟩)
theorem rsext_no (x n : Int) (w : World) (h : ¬ (n = 1 ∨ n = 2 ∨ n = 4 ∨ n = 8)) : Calls Tryz.prog 57 #[.int .u64 x, .int .i64 n] w fun e w' => e = .returned (.int .u64 0) ∧ w = w' := by
  have n1 : (n == 1) = false := by simp; omega
  have n2 : (n == 2) = false := by simp; omega
  have n4 : (n == 4) = false := by simp; omega
  have n8 : (n == 8) = false := by simp; omega
  clear h
  go_enter Tryz.func57, Tryz.ntmps57
  go_wp2
  go_ret
  exact ⟨rfl, rfl⟩
theorem rsext_any (x n : Int) (w : World) (x0 : 0 ≤ x) (x1 : x < 18446744073709551616) : Calls Tryz.prog 57 #[.int .u64 x, .int .i64 n] w fun e w' => e = .returned (.int .u64 (wd.sx x n)) ∧ w = w' := by
  by_cases h : n = 1 ∨ n = 2 ∨ n = 4 ∨ n = 8
  · rcases h with rfl | rfl | rfl | rfl
    · exact rsext1 x w x0 x1
    · exact rsext2 x w x0 x1
    · exact rsext4 x w x0 x1
    · exact rsext8 x w x0 x1
  · rw [show wd.sx x n = 0 by unfold wd.sx; repeat (rw [if_neg (by omega)])]
    exact rsext_no x n w h
theorem halfV1 (x y : Int) : wd.halfV 1 x y = wd.sx (wd.doV 1 (wd.zx x 4) (wd.zx y 4)) 4 := by simp [wd.halfV, wd.halfOk, wd.halfX, wd.halfY]
theorem half1 (x y : Int) (w : World) (x0 : 0 ≤ x) (x1 : x < 18446744073709551616) (y0 : 0 ≤ y) (y1 : y < 18446744073709551616) : Calls Tryz.prog 108 #[.int .i64 1, .int .u64 x, .int .u64 y] w fun e w' => e = .returned (.tuple #[.int .u64 (wd.halfV 1 x y), .int .i64 0]) ∧ Below w.heap.size w w' := by
  rw [halfV1]
  have bx := zx4_bd x
  have bY := zx4_bd y
  have sX := sx4_bd x
  have sY := sx4_bd y
  have bd := doV_bd 1 (wd.zx x 4) (wd.zx y 4) (by omega) (by omega) (by omega) (by omega)
  go_enter Tryz.func108, Tryz.ntmps108
  go_wp2_with fail
  refine (zext4 x _ x0 x1).mono ?_
  rintro e w' ⟨rfl, rfl⟩
  go_wp2_with fail
  refine (zext4 y _ y0 y1).mono ?_
  rintro e w' ⟨rfl, rfl⟩
  go_wp2_with fail
  refine (do1 (wd.zx x 4) (wd.zx y 4) _ (by omega) (by omega) (by omega) (by omega)).mono ?_
  rintro e wA ⟨rfl, hg⟩
  go_wp2_with fail
  refine (sext4 _ _ bd.1 bd.2).mono ?_
  rintro e w' ⟨rfl, rfl⟩
  go_wp2
  go_ret2
  exact ⟨rfl, hg⟩
theorem rhalf1 (x y : Int) (w : World) (x0 : 0 ≤ x) (x1 : x < 18446744073709551616) (y0 : 0 ≤ y) (y1 : y < 18446744073709551616) : Calls Tryz.prog 38 #[.int .i64 1, .int .u64 x, .int .u64 y] w fun e w' => e = .returned (.tuple #[.int .u64 (wd.halfV 1 x y), .int .i64 0]) ∧ w = w' := by
  rw [halfV1]
  have bx := zx4_bd x
  have bY := zx4_bd y
  have sX := sx4_bd x
  have sY := sx4_bd y
  have bd := doV_bd 1 (wd.zx x 4) (wd.zx y 4) (by omega) (by omega) (by omega) (by omega)
  go_enter Tryz.func38, Tryz.ntmps38
  go_wp2_with fail
  refine (rzext4 x _ x0 x1).mono ?_
  rintro e w' ⟨rfl, rfl⟩
  go_wp2_with fail
  refine (rzext4 y _ y0 y1).mono ?_
  rintro e w' ⟨rfl, rfl⟩
  go_wp2_with fail
  refine (rdo1 (wd.zx x 4) (wd.zx y 4) _ (by omega) (by omega) (by omega) (by omega)).mono ?_
  rintro e w' ⟨rfl, rfl⟩
  go_wp2_with fail
  refine (rsext4 _ _ bd.1 bd.2).mono ?_
  rintro e w' ⟨rfl, rfl⟩
  go_wp2
  go_ret2
  exact ⟨rfl, rfl⟩
theorem halfV2 (x y : Int) : wd.halfV 2 x y = wd.sx (wd.doV 2 (wd.zx x 4) (wd.zx y 4)) 4 := by simp [wd.halfV, wd.halfOk, wd.halfX, wd.halfY]
theorem half2 (x y : Int) (w : World) (x0 : 0 ≤ x) (x1 : x < 18446744073709551616) (y0 : 0 ≤ y) (y1 : y < 18446744073709551616) : Calls Tryz.prog 108 #[.int .i64 2, .int .u64 x, .int .u64 y] w fun e w' => e = .returned (.tuple #[.int .u64 (wd.halfV 2 x y), .int .i64 0]) ∧ Below w.heap.size w w' := by
  rw [halfV2]
  have bx := zx4_bd x
  have bY := zx4_bd y
  have sX := sx4_bd x
  have sY := sx4_bd y
  have bd := doV_bd 2 (wd.zx x 4) (wd.zx y 4) (by omega) (by omega) (by omega) (by omega)
  go_enter Tryz.func108, Tryz.ntmps108
  go_wp2_with fail
  refine (zext4 x _ x0 x1).mono ?_
  rintro e w' ⟨rfl, rfl⟩
  go_wp2_with fail
  refine (zext4 y _ y0 y1).mono ?_
  rintro e w' ⟨rfl, rfl⟩
  go_wp2_with fail
  refine (do2 (wd.zx x 4) (wd.zx y 4) _ (by omega) (by omega) (by omega) (by omega)).mono ?_
  rintro e wA ⟨rfl, hg⟩
  go_wp2_with fail
  refine (sext4 _ _ bd.1 bd.2).mono ?_
  rintro e w' ⟨rfl, rfl⟩
  go_wp2
  go_ret2
  exact ⟨rfl, hg⟩
theorem rhalf2 (x y : Int) (w : World) (x0 : 0 ≤ x) (x1 : x < 18446744073709551616) (y0 : 0 ≤ y) (y1 : y < 18446744073709551616) : Calls Tryz.prog 38 #[.int .i64 2, .int .u64 x, .int .u64 y] w fun e w' => e = .returned (.tuple #[.int .u64 (wd.halfV 2 x y), .int .i64 0]) ∧ w = w' := by
  rw [halfV2]
  have bx := zx4_bd x
  have bY := zx4_bd y
  have sX := sx4_bd x
  have sY := sx4_bd y
  have bd := doV_bd 2 (wd.zx x 4) (wd.zx y 4) (by omega) (by omega) (by omega) (by omega)
  go_enter Tryz.func38, Tryz.ntmps38
  go_wp2_with fail
  refine (rzext4 x _ x0 x1).mono ?_
  rintro e w' ⟨rfl, rfl⟩
  go_wp2_with fail
  refine (rzext4 y _ y0 y1).mono ?_
  rintro e w' ⟨rfl, rfl⟩
  go_wp2_with fail
  refine (rdo2 (wd.zx x 4) (wd.zx y 4) _ (by omega) (by omega) (by omega) (by omega)).mono ?_
  rintro e w' ⟨rfl, rfl⟩
  go_wp2_with fail
  refine (rsext4 _ _ bd.1 bd.2).mono ?_
  rintro e w' ⟨rfl, rfl⟩
  go_wp2
  go_ret2
  exact ⟨rfl, rfl⟩
theorem halfV3 (x y : Int) : wd.halfV 3 x y = wd.sx (wd.doV 3 (wd.zx x 4) (wd.zx y 4)) 4 := by simp [wd.halfV, wd.halfOk, wd.halfX, wd.halfY]
theorem half3 (x y : Int) (w : World) (x0 : 0 ≤ x) (x1 : x < 18446744073709551616) (y0 : 0 ≤ y) (y1 : y < 18446744073709551616) : Calls Tryz.prog 108 #[.int .i64 3, .int .u64 x, .int .u64 y] w fun e w' => e = .returned (.tuple #[.int .u64 (wd.halfV 3 x y), .int .i64 0]) ∧ Below w.heap.size w w' := by
  rw [halfV3]
  have bx := zx4_bd x
  have bY := zx4_bd y
  have sX := sx4_bd x
  have sY := sx4_bd y
  have bd := doV_bd 3 (wd.zx x 4) (wd.zx y 4) (by omega) (by omega) (by omega) (by omega)
  go_enter Tryz.func108, Tryz.ntmps108
  go_wp2_with fail
  refine (zext4 x _ x0 x1).mono ?_
  rintro e w' ⟨rfl, rfl⟩
  go_wp2_with fail
  refine (zext4 y _ y0 y1).mono ?_
  rintro e w' ⟨rfl, rfl⟩
  go_wp2_with fail
  refine (do3 (wd.zx x 4) (wd.zx y 4) _ (by omega) (by omega) (by omega) (by omega)).mono ?_
  rintro e wA ⟨rfl, hg⟩
  go_wp2_with fail
  refine (sext4 _ _ bd.1 bd.2).mono ?_
  rintro e w' ⟨rfl, rfl⟩
  go_wp2
  go_ret2
  exact ⟨rfl, hg⟩
theorem rhalf3 (x y : Int) (w : World) (x0 : 0 ≤ x) (x1 : x < 18446744073709551616) (y0 : 0 ≤ y) (y1 : y < 18446744073709551616) : Calls Tryz.prog 38 #[.int .i64 3, .int .u64 x, .int .u64 y] w fun e w' => e = .returned (.tuple #[.int .u64 (wd.halfV 3 x y), .int .i64 0]) ∧ w = w' := by
  rw [halfV3]
  have bx := zx4_bd x
  have bY := zx4_bd y
  have sX := sx4_bd x
  have sY := sx4_bd y
  have bd := doV_bd 3 (wd.zx x 4) (wd.zx y 4) (by omega) (by omega) (by omega) (by omega)
  go_enter Tryz.func38, Tryz.ntmps38
  go_wp2_with fail
  refine (rzext4 x _ x0 x1).mono ?_
  rintro e w' ⟨rfl, rfl⟩
  go_wp2_with fail
  refine (rzext4 y _ y0 y1).mono ?_
  rintro e w' ⟨rfl, rfl⟩
  go_wp2_with fail
  refine (rdo3 (wd.zx x 4) (wd.zx y 4) _ (by omega) (by omega) (by omega) (by omega)).mono ?_
  rintro e w' ⟨rfl, rfl⟩
  go_wp2_with fail
  refine (rsext4 _ _ bd.1 bd.2).mono ?_
  rintro e w' ⟨rfl, rfl⟩
  go_wp2
  go_ret2
  exact ⟨rfl, rfl⟩
theorem halfV7 (x y : Int) : wd.halfV 7 x y = wd.sx (wd.doV 7 (wd.sx x 4) (wd.sx y 4)) 4 := by simp [wd.halfV, wd.halfOk, wd.halfX, wd.halfY]
theorem half7 (x y : Int) (w : World) (x0 : 0 ≤ x) (x1 : x < 18446744073709551616) (y0 : 0 ≤ y) (y1 : y < 18446744073709551616) : Calls Tryz.prog 108 #[.int .i64 7, .int .u64 x, .int .u64 y] w fun e w' => e = .returned (.tuple #[.int .u64 (wd.halfV 7 x y), .int .i64 0]) ∧ Below w.heap.size w w' := by
  rw [halfV7]
  have bx := zx4_bd x
  have bY := zx4_bd y
  have sX := sx4_bd x
  have sY := sx4_bd y
  have bd := doV_bd 7 (wd.sx x 4) (wd.sx y 4) (by omega) (by omega) (by omega) (by omega)
  go_enter Tryz.func108, Tryz.ntmps108
  go_wp2_with fail
  refine (zext4 x _ x0 x1).mono ?_
  rintro e w' ⟨rfl, rfl⟩
  go_wp2_with fail
  refine (zext4 y _ y0 y1).mono ?_
  rintro e w' ⟨rfl, rfl⟩
  go_wp2_with fail
  refine (sext4 _ _ bx.1 bx.2).mono ?_
  rw [sx_zx]
  rintro e w' ⟨rfl, rfl⟩
  go_wp2_with fail
  refine (sext4 _ _ bY.1 bY.2).mono ?_
  rw [sx_zx]
  rintro e w' ⟨rfl, rfl⟩
  go_wp2_with fail
  refine (do7 (wd.sx x 4) (wd.sx y 4) _ (by omega) (by omega) (by omega) (by omega)).mono ?_
  rintro e wA ⟨rfl, hg⟩
  go_wp2_with fail
  refine (sext4 _ _ bd.1 bd.2).mono ?_
  rintro e w' ⟨rfl, rfl⟩
  go_wp2
  go_ret2
  exact ⟨rfl, hg⟩
theorem rhalf7 (x y : Int) (w : World) (x0 : 0 ≤ x) (x1 : x < 18446744073709551616) (y0 : 0 ≤ y) (y1 : y < 18446744073709551616) : Calls Tryz.prog 38 #[.int .i64 7, .int .u64 x, .int .u64 y] w fun e w' => e = .returned (.tuple #[.int .u64 (wd.halfV 7 x y), .int .i64 0]) ∧ w = w' := by
  rw [halfV7]
  have bx := zx4_bd x
  have bY := zx4_bd y
  have sX := sx4_bd x
  have sY := sx4_bd y
  have bd := doV_bd 7 (wd.sx x 4) (wd.sx y 4) (by omega) (by omega) (by omega) (by omega)
  go_enter Tryz.func38, Tryz.ntmps38
  go_wp2_with fail
  refine (rzext4 x _ x0 x1).mono ?_
  rintro e w' ⟨rfl, rfl⟩
  go_wp2_with fail
  refine (rzext4 y _ y0 y1).mono ?_
  rintro e w' ⟨rfl, rfl⟩
  go_wp2_with fail
  refine (rsext4 x _ x0 x1).mono ?_
  rintro e w' ⟨rfl, rfl⟩
  go_wp2_with fail
  refine (rsext4 y _ y0 y1).mono ?_
  rintro e w' ⟨rfl, rfl⟩
  go_wp2_with fail
  refine (rdo7 (wd.sx x 4) (wd.sx y 4) _ (by omega) (by omega) (by omega) (by omega)).mono ?_
  rintro e w' ⟨rfl, rfl⟩
  go_wp2_with fail
  refine (rsext4 _ _ bd.1 bd.2).mono ?_
  rintro e w' ⟨rfl, rfl⟩
  go_wp2
  go_ret2
  exact ⟨rfl, rfl⟩
theorem halfV8 (x y : Int) : wd.halfV 8 x y = wd.sx (wd.doV 8 (wd.zx x 4) (wd.zx y 4)) 4 := by simp [wd.halfV, wd.halfOk, wd.halfX, wd.halfY]
theorem half8 (x y : Int) (w : World) (x0 : 0 ≤ x) (x1 : x < 18446744073709551616) (y0 : 0 ≤ y) (y1 : y < 18446744073709551616) : Calls Tryz.prog 108 #[.int .i64 8, .int .u64 x, .int .u64 y] w fun e w' => e = .returned (.tuple #[.int .u64 (wd.halfV 8 x y), .int .i64 0]) ∧ Below w.heap.size w w' := by
  rw [halfV8]
  have bx := zx4_bd x
  have bY := zx4_bd y
  have sX := sx4_bd x
  have sY := sx4_bd y
  have bd := doV_bd 8 (wd.zx x 4) (wd.zx y 4) (by omega) (by omega) (by omega) (by omega)
  go_enter Tryz.func108, Tryz.ntmps108
  go_wp2_with fail
  refine (zext4 x _ x0 x1).mono ?_
  rintro e w' ⟨rfl, rfl⟩
  go_wp2_with fail
  refine (zext4 y _ y0 y1).mono ?_
  rintro e w' ⟨rfl, rfl⟩
  go_wp2_with fail
  refine (do8 (wd.zx x 4) (wd.zx y 4) _ (by omega) (by omega) (by omega) (by omega)).mono ?_
  rintro e wA ⟨rfl, hg⟩
  go_wp2_with fail
  refine (sext4 _ _ bd.1 bd.2).mono ?_
  rintro e w' ⟨rfl, rfl⟩
  go_wp2
  go_ret2
  exact ⟨rfl, hg⟩
theorem rhalf8 (x y : Int) (w : World) (x0 : 0 ≤ x) (x1 : x < 18446744073709551616) (y0 : 0 ≤ y) (y1 : y < 18446744073709551616) : Calls Tryz.prog 38 #[.int .i64 8, .int .u64 x, .int .u64 y] w fun e w' => e = .returned (.tuple #[.int .u64 (wd.halfV 8 x y), .int .i64 0]) ∧ w = w' := by
  rw [halfV8]
  have bx := zx4_bd x
  have bY := zx4_bd y
  have sX := sx4_bd x
  have sY := sx4_bd y
  have bd := doV_bd 8 (wd.zx x 4) (wd.zx y 4) (by omega) (by omega) (by omega) (by omega)
  go_enter Tryz.func38, Tryz.ntmps38
  go_wp2_with fail
  refine (rzext4 x _ x0 x1).mono ?_
  rintro e w' ⟨rfl, rfl⟩
  go_wp2_with fail
  refine (rzext4 y _ y0 y1).mono ?_
  rintro e w' ⟨rfl, rfl⟩
  go_wp2_with fail
  refine (rdo8 (wd.zx x 4) (wd.zx y 4) _ (by omega) (by omega) (by omega) (by omega)).mono ?_
  rintro e w' ⟨rfl, rfl⟩
  go_wp2_with fail
  refine (rsext4 _ _ bd.1 bd.2).mono ?_
  rintro e w' ⟨rfl, rfl⟩
  go_wp2
  go_ret2
  exact ⟨rfl, rfl⟩
theorem halfV9 (x y : Int) : wd.halfV 9 x y = wd.sx (wd.doV 9 (wd.sx x 4) (wd.sx y 4)) 4 := by simp [wd.halfV, wd.halfOk, wd.halfX, wd.halfY]
theorem half9 (x y : Int) (w : World) (x0 : 0 ≤ x) (x1 : x < 18446744073709551616) (y0 : 0 ≤ y) (y1 : y < 18446744073709551616) : Calls Tryz.prog 108 #[.int .i64 9, .int .u64 x, .int .u64 y] w fun e w' => e = .returned (.tuple #[.int .u64 (wd.halfV 9 x y), .int .i64 0]) ∧ Below w.heap.size w w' := by
  rw [halfV9]
  have bx := zx4_bd x
  have bY := zx4_bd y
  have sX := sx4_bd x
  have sY := sx4_bd y
  have bd := doV_bd 9 (wd.sx x 4) (wd.sx y 4) (by omega) (by omega) (by omega) (by omega)
  go_enter Tryz.func108, Tryz.ntmps108
  go_wp2_with fail
  refine (zext4 x _ x0 x1).mono ?_
  rintro e w' ⟨rfl, rfl⟩
  go_wp2_with fail
  refine (zext4 y _ y0 y1).mono ?_
  rintro e w' ⟨rfl, rfl⟩
  go_wp2_with fail
  refine (sext4 _ _ bx.1 bx.2).mono ?_
  rw [sx_zx]
  rintro e w' ⟨rfl, rfl⟩
  go_wp2_with fail
  refine (sext4 _ _ bY.1 bY.2).mono ?_
  rw [sx_zx]
  rintro e w' ⟨rfl, rfl⟩
  go_wp2_with fail
  refine (do9 (wd.sx x 4) (wd.sx y 4) _ (by omega) (by omega) (by omega) (by omega)).mono ?_
  rintro e wA ⟨rfl, hg⟩
  go_wp2_with fail
  refine (sext4 _ _ bd.1 bd.2).mono ?_
  rintro e w' ⟨rfl, rfl⟩
  go_wp2
  go_ret2
  exact ⟨rfl, hg⟩
theorem rhalf9 (x y : Int) (w : World) (x0 : 0 ≤ x) (x1 : x < 18446744073709551616) (y0 : 0 ≤ y) (y1 : y < 18446744073709551616) : Calls Tryz.prog 38 #[.int .i64 9, .int .u64 x, .int .u64 y] w fun e w' => e = .returned (.tuple #[.int .u64 (wd.halfV 9 x y), .int .i64 0]) ∧ w = w' := by
  rw [halfV9]
  have bx := zx4_bd x
  have bY := zx4_bd y
  have sX := sx4_bd x
  have sY := sx4_bd y
  have bd := doV_bd 9 (wd.sx x 4) (wd.sx y 4) (by omega) (by omega) (by omega) (by omega)
  go_enter Tryz.func38, Tryz.ntmps38
  go_wp2_with fail
  refine (rzext4 x _ x0 x1).mono ?_
  rintro e w' ⟨rfl, rfl⟩
  go_wp2_with fail
  refine (rzext4 y _ y0 y1).mono ?_
  rintro e w' ⟨rfl, rfl⟩
  go_wp2_with fail
  refine (rsext4 x _ x0 x1).mono ?_
  rintro e w' ⟨rfl, rfl⟩
  go_wp2_with fail
  refine (rsext4 y _ y0 y1).mono ?_
  rintro e w' ⟨rfl, rfl⟩
  go_wp2_with fail
  refine (rdo9 (wd.sx x 4) (wd.sx y 4) _ (by omega) (by omega) (by omega) (by omega)).mono ?_
  rintro e w' ⟨rfl, rfl⟩
  go_wp2_with fail
  refine (rsext4 _ _ bd.1 bd.2).mono ?_
  rintro e w' ⟨rfl, rfl⟩
  go_wp2
  go_ret2
  exact ⟨rfl, rfl⟩
theorem halfV10 (x y : Int) : wd.halfV 10 x y = wd.sx (wd.doV 10 (wd.zx x 4) (wd.zx y 4)) 4 := by simp [wd.halfV, wd.halfOk, wd.halfX, wd.halfY]
theorem half10 (x y : Int) (w : World) (x0 : 0 ≤ x) (x1 : x < 18446744073709551616) (y0 : 0 ≤ y) (y1 : y < 18446744073709551616) : Calls Tryz.prog 108 #[.int .i64 10, .int .u64 x, .int .u64 y] w fun e w' => e = .returned (.tuple #[.int .u64 (wd.halfV 10 x y), .int .i64 0]) ∧ Below w.heap.size w w' := by
  rw [halfV10]
  have bx := zx4_bd x
  have bY := zx4_bd y
  have sX := sx4_bd x
  have sY := sx4_bd y
  have bd := doV_bd 10 (wd.zx x 4) (wd.zx y 4) (by omega) (by omega) (by omega) (by omega)
  go_enter Tryz.func108, Tryz.ntmps108
  go_wp2_with fail
  refine (zext4 x _ x0 x1).mono ?_
  rintro e w' ⟨rfl, rfl⟩
  go_wp2_with fail
  refine (zext4 y _ y0 y1).mono ?_
  rintro e w' ⟨rfl, rfl⟩
  go_wp2_with fail
  refine (do10 (wd.zx x 4) (wd.zx y 4) _ (by omega) (by omega) (by omega) (by omega)).mono ?_
  rintro e wA ⟨rfl, hg⟩
  go_wp2_with fail
  refine (sext4 _ _ bd.1 bd.2).mono ?_
  rintro e w' ⟨rfl, rfl⟩
  go_wp2
  go_ret2
  exact ⟨rfl, hg⟩
theorem rhalf10 (x y : Int) (w : World) (x0 : 0 ≤ x) (x1 : x < 18446744073709551616) (y0 : 0 ≤ y) (y1 : y < 18446744073709551616) : Calls Tryz.prog 38 #[.int .i64 10, .int .u64 x, .int .u64 y] w fun e w' => e = .returned (.tuple #[.int .u64 (wd.halfV 10 x y), .int .i64 0]) ∧ w = w' := by
  rw [halfV10]
  have bx := zx4_bd x
  have bY := zx4_bd y
  have sX := sx4_bd x
  have sY := sx4_bd y
  have bd := doV_bd 10 (wd.zx x 4) (wd.zx y 4) (by omega) (by omega) (by omega) (by omega)
  go_enter Tryz.func38, Tryz.ntmps38
  go_wp2_with fail
  refine (rzext4 x _ x0 x1).mono ?_
  rintro e w' ⟨rfl, rfl⟩
  go_wp2_with fail
  refine (rzext4 y _ y0 y1).mono ?_
  rintro e w' ⟨rfl, rfl⟩
  go_wp2_with fail
  refine (rdo10 (wd.zx x 4) (wd.zx y 4) _ (by omega) (by omega) (by omega) (by omega)).mono ?_
  rintro e w' ⟨rfl, rfl⟩
  go_wp2_with fail
  refine (rsext4 _ _ bd.1 bd.2).mono ?_
  rintro e w' ⟨rfl, rfl⟩
  go_wp2
  go_ret2
  exact ⟨rfl, rfl⟩
theorem halfV14 (x y : Int) : wd.halfV 14 x y = wd.sx (wd.doV 14 (wd.zx x 4) (wd.zx y 4 % 32)) 4 := by simp [wd.halfV, wd.halfOk, wd.halfX, wd.halfY]
theorem half14 (x y : Int) (w : World) (x0 : 0 ≤ x) (x1 : x < 18446744073709551616) (y0 : 0 ≤ y) (y1 : y < 18446744073709551616) : Calls Tryz.prog 108 #[.int .i64 14, .int .u64 x, .int .u64 y] w fun e w' => e = .returned (.tuple #[.int .u64 (wd.halfV 14 x y), .int .i64 0]) ∧ Below w.heap.size w w' := by
  rw [halfV14]
  have bx := zx4_bd x
  have bY := zx4_bd y
  have sX := sx4_bd x
  have sY := sx4_bd y
  have bd := doV_bd 14 (wd.zx x 4) (wd.zx y 4 % 32) (by omega) (by omega) (by omega) (by omega)
  go_enter Tryz.func108, Tryz.ntmps108
  go_wp2_with fail
  refine (zext4 x _ x0 x1).mono ?_
  rintro e w' ⟨rfl, rfl⟩
  go_wp2_with fail
  refine (zext4 y _ y0 y1).mono ?_
  rintro e w' ⟨rfl, rfl⟩
  go_wp2_with fail
  refine (do14 (wd.zx x 4) (wd.zx y 4 % 32) _ (by omega) (by omega) (by omega) (by omega)).mono ?_
  rintro e wA ⟨rfl, hg⟩
  go_wp2_with fail
  refine (sext4 _ _ bd.1 bd.2).mono ?_
  rintro e w' ⟨rfl, rfl⟩
  go_wp2
  go_ret2
  exact ⟨rfl, hg⟩
theorem rhalf14 (x y : Int) (w : World) (x0 : 0 ≤ x) (x1 : x < 18446744073709551616) (y0 : 0 ≤ y) (y1 : y < 18446744073709551616) : Calls Tryz.prog 38 #[.int .i64 14, .int .u64 x, .int .u64 y] w fun e w' => e = .returned (.tuple #[.int .u64 (wd.halfV 14 x y), .int .i64 0]) ∧ w = w' := by
  rw [halfV14]
  have bx := zx4_bd x
  have bY := zx4_bd y
  have sX := sx4_bd x
  have sY := sx4_bd y
  have bd := doV_bd 14 (wd.zx x 4) (wd.zx y 4 % 32) (by omega) (by omega) (by omega) (by omega)
  go_enter Tryz.func38, Tryz.ntmps38
  go_wp2_with fail
  refine (rzext4 x _ x0 x1).mono ?_
  rintro e w' ⟨rfl, rfl⟩
  go_wp2_with fail
  refine (rzext4 y _ y0 y1).mono ?_
  rintro e w' ⟨rfl, rfl⟩
  go_wp2_with fail
  refine (rdo14 (wd.zx x 4) (wd.zx y 4 % 32) _ (by omega) (by omega) (by omega) (by omega)).mono ?_
  rintro e w' ⟨rfl, rfl⟩
  go_wp2_with fail
  refine (rsext4 _ _ bd.1 bd.2).mono ?_
  rintro e w' ⟨rfl, rfl⟩
  go_wp2
  go_ret2
  exact ⟨rfl, rfl⟩
theorem halfV15 (x y : Int) : wd.halfV 15 x y = wd.sx (wd.doV 15 (wd.zx x 4) (wd.zx y 4 % 32)) 4 := by simp [wd.halfV, wd.halfOk, wd.halfX, wd.halfY]
theorem half15 (x y : Int) (w : World) (x0 : 0 ≤ x) (x1 : x < 18446744073709551616) (y0 : 0 ≤ y) (y1 : y < 18446744073709551616) : Calls Tryz.prog 108 #[.int .i64 15, .int .u64 x, .int .u64 y] w fun e w' => e = .returned (.tuple #[.int .u64 (wd.halfV 15 x y), .int .i64 0]) ∧ Below w.heap.size w w' := by
  rw [halfV15]
  have bx := zx4_bd x
  have bY := zx4_bd y
  have sX := sx4_bd x
  have sY := sx4_bd y
  have bd := doV_bd 15 (wd.zx x 4) (wd.zx y 4 % 32) (by omega) (by omega) (by omega) (by omega)
  go_enter Tryz.func108, Tryz.ntmps108
  go_wp2_with fail
  refine (zext4 x _ x0 x1).mono ?_
  rintro e w' ⟨rfl, rfl⟩
  go_wp2_with fail
  refine (zext4 y _ y0 y1).mono ?_
  rintro e w' ⟨rfl, rfl⟩
  go_wp2_with fail
  refine (do15 (wd.zx x 4) (wd.zx y 4 % 32) _ (by omega) (by omega) (by omega) (by omega)).mono ?_
  rintro e wA ⟨rfl, hg⟩
  go_wp2_with fail
  refine (sext4 _ _ bd.1 bd.2).mono ?_
  rintro e w' ⟨rfl, rfl⟩
  go_wp2
  go_ret2
  exact ⟨rfl, hg⟩
theorem rhalf15 (x y : Int) (w : World) (x0 : 0 ≤ x) (x1 : x < 18446744073709551616) (y0 : 0 ≤ y) (y1 : y < 18446744073709551616) : Calls Tryz.prog 38 #[.int .i64 15, .int .u64 x, .int .u64 y] w fun e w' => e = .returned (.tuple #[.int .u64 (wd.halfV 15 x y), .int .i64 0]) ∧ w = w' := by
  rw [halfV15]
  have bx := zx4_bd x
  have bY := zx4_bd y
  have sX := sx4_bd x
  have sY := sx4_bd y
  have bd := doV_bd 15 (wd.zx x 4) (wd.zx y 4 % 32) (by omega) (by omega) (by omega) (by omega)
  go_enter Tryz.func38, Tryz.ntmps38
  go_wp2_with fail
  refine (rzext4 x _ x0 x1).mono ?_
  rintro e w' ⟨rfl, rfl⟩
  go_wp2_with fail
  refine (rzext4 y _ y0 y1).mono ?_
  rintro e w' ⟨rfl, rfl⟩
  go_wp2_with fail
  refine (rdo15 (wd.zx x 4) (wd.zx y 4 % 32) _ (by omega) (by omega) (by omega) (by omega)).mono ?_
  rintro e w' ⟨rfl, rfl⟩
  go_wp2_with fail
  refine (rsext4 _ _ bd.1 bd.2).mono ?_
  rintro e w' ⟨rfl, rfl⟩
  go_wp2
  go_ret2
  exact ⟨rfl, rfl⟩
theorem halfV16 (x y : Int) : wd.halfV 16 x y = wd.sx (wd.doV 16 (wd.sx x 4) (wd.zx y 4 % 32)) 4 := by simp [wd.halfV, wd.halfOk, wd.halfX, wd.halfY]
theorem half16 (x y : Int) (w : World) (x0 : 0 ≤ x) (x1 : x < 18446744073709551616) (y0 : 0 ≤ y) (y1 : y < 18446744073709551616) : Calls Tryz.prog 108 #[.int .i64 16, .int .u64 x, .int .u64 y] w fun e w' => e = .returned (.tuple #[.int .u64 (wd.halfV 16 x y), .int .i64 0]) ∧ Below w.heap.size w w' := by
  rw [halfV16]
  have bx := zx4_bd x
  have bY := zx4_bd y
  have sX := sx4_bd x
  have sY := sx4_bd y
  have bd := doV_bd 16 (wd.sx x 4) (wd.zx y 4 % 32) (by omega) (by omega) (by omega) (by omega)
  go_enter Tryz.func108, Tryz.ntmps108
  go_wp2_with fail
  refine (zext4 x _ x0 x1).mono ?_
  rintro e w' ⟨rfl, rfl⟩
  go_wp2_with fail
  refine (zext4 y _ y0 y1).mono ?_
  rintro e w' ⟨rfl, rfl⟩
  go_wp2_with fail
  refine (sext4 _ _ bx.1 bx.2).mono ?_
  rw [sx_zx]
  rintro e w' ⟨rfl, rfl⟩
  go_wp2_with fail
  refine (do16 (wd.sx x 4) (wd.zx y 4 % 32) _ (by omega) (by omega) (by omega) (by omega)).mono ?_
  rintro e wA ⟨rfl, hg⟩
  go_wp2_with fail
  refine (sext4 _ _ bd.1 bd.2).mono ?_
  rintro e w' ⟨rfl, rfl⟩
  go_wp2
  go_ret2
  exact ⟨rfl, hg⟩
theorem rhalf16 (x y : Int) (w : World) (x0 : 0 ≤ x) (x1 : x < 18446744073709551616) (y0 : 0 ≤ y) (y1 : y < 18446744073709551616) : Calls Tryz.prog 38 #[.int .i64 16, .int .u64 x, .int .u64 y] w fun e w' => e = .returned (.tuple #[.int .u64 (wd.halfV 16 x y), .int .i64 0]) ∧ w = w' := by
  rw [halfV16]
  have bx := zx4_bd x
  have bY := zx4_bd y
  have sX := sx4_bd x
  have sY := sx4_bd y
  have sm := sx4_mod y
  have bd := doV_bd 16 (wd.sx x 4) (wd.zx y 4 % 32) (by omega) (by omega) (by omega) (by omega)
  go_enter Tryz.func38, Tryz.ntmps38
  go_wp2_with fail
  refine (rzext4 x _ x0 x1).mono ?_
  rintro e w' ⟨rfl, rfl⟩
  go_wp2_with fail
  refine (rzext4 y _ y0 y1).mono ?_
  rintro e w' ⟨rfl, rfl⟩
  go_wp2_with fail
  refine (rsext4 x _ x0 x1).mono ?_
  rintro e w' ⟨rfl, rfl⟩
  go_wp2_with fail
  refine (rsext4 y _ y0 y1).mono ?_
  rintro e w' ⟨rfl, rfl⟩
  go_wp2_with fail
  refine (rdo16 (wd.sx x 4) (wd.zx y 4 % 32) _ (by omega) (by omega) (by omega) (by omega)).mono ?_
  rintro e w' ⟨rfl, rfl⟩
  go_wp2_with fail
  refine (rsext4 _ _ bd.1 bd.2).mono ?_
  rintro e w' ⟨rfl, rfl⟩
  go_wp2
  go_ret2
  exact ⟨rfl, rfl⟩
theorem half_no (f x y : Int) (w : World) (x0 : 0 ≤ x) (x1 : x < 18446744073709551616) (y0 : 0 ≤ y) (y1 : y < 18446744073709551616) (h : ¬ (f = 1 ∨ f = 2 ∨ f = 3 ∨ f = 7 ∨ f = 8 ∨ f = 9 ∨ f = 10 ∨ f = 14 ∨ f = 15 ∨ f = 16)) : Calls Tryz.prog 108 #[.int .i64 f, .int .u64 x, .int .u64 y] w fun e w' => e = .returned (.tuple #[.int .u64 0, .int .i64 2]) ∧ w = w' := by
  have n1 : (f == 1) = false := by simp; omega
  have n2 : (f == 2) = false := by simp; omega
  have n3 : (f == 3) = false := by simp; omega
  have n7 : (f == 7) = false := by simp; omega
  have n8 : (f == 8) = false := by simp; omega
  have n9 : (f == 9) = false := by simp; omega
  have n10 : (f == 10) = false := by simp; omega
  have n14 : (f == 14) = false := by simp; omega
  have n15 : (f == 15) = false := by simp; omega
  have n16 : (f == 16) = false := by simp; omega
  clear h
  go_enter Tryz.func108, Tryz.ntmps108
  go_wp2_with fail
  refine (zext4 x _ x0 x1).mono ?_
  rintro e w' ⟨rfl, rfl⟩
  go_wp2_with fail
  refine (zext4 y _ y0 y1).mono ?_
  rintro e w' ⟨rfl, rfl⟩
  go_wp2
  go_ret2
  exact ⟨rfl, rfl⟩
theorem rhalf_no (f x y : Int) (w : World) (x0 : 0 ≤ x) (x1 : x < 18446744073709551616) (y0 : 0 ≤ y) (y1 : y < 18446744073709551616) (h : ¬ (f = 1 ∨ f = 2 ∨ f = 3 ∨ f = 7 ∨ f = 8 ∨ f = 9 ∨ f = 10 ∨ f = 14 ∨ f = 15 ∨ f = 16)) : Calls Tryz.prog 38 #[.int .i64 f, .int .u64 x, .int .u64 y] w fun e w' => e = .returned (.tuple #[.int .u64 0, .int .i64 2]) ∧ w = w' := by
  have n1 : (f == 1) = false := by simp; omega
  have n2 : (f == 2) = false := by simp; omega
  have n3 : (f == 3) = false := by simp; omega
  have n7 : (f == 7) = false := by simp; omega
  have n8 : (f == 8) = false := by simp; omega
  have n9 : (f == 9) = false := by simp; omega
  have n10 : (f == 10) = false := by simp; omega
  have n14 : (f == 14) = false := by simp; omega
  have n15 : (f == 15) = false := by simp; omega
  have n16 : (f == 16) = false := by simp; omega
  clear h
  go_enter Tryz.func38, Tryz.ntmps38
  go_wp2_with fail
  refine (rzext4 x _ x0 x1).mono ?_
  rintro e w' ⟨rfl, rfl⟩
  go_wp2_with fail
  refine (rzext4 y _ y0 y1).mono ?_
  rintro e w' ⟨rfl, rfl⟩
  go_wp2
  go_ret2
  exact ⟨rfl, rfl⟩
theorem half_any (f x y : Int) (w : World) (x0 : 0 ≤ x) (x1 : x < 18446744073709551616) (y0 : 0 ≤ y) (y1 : y < 18446744073709551616) :
    Calls Tryz.prog 108 #[.int .i64 f, .int .u64 x, .int .u64 y] w fun e w' => e = .returned (.tuple #[.int .u64 (wd.halfV f x y), .int .i64 (wd.halfE f)]) ∧ Below w.heap.size w w' := by
  by_cases h : f = 1 ∨ f = 2 ∨ f = 3 ∨ f = 7 ∨ f = 8 ∨ f = 9 ∨ f = 10 ∨ f = 14 ∨ f = 15 ∨ f = 16
  · rw [show wd.halfE f = 0 from if_pos (decide_eq_true h)]
    rcases h with rfl | rfl | rfl | rfl | rfl | rfl | rfl | rfl | rfl | rfl
    · exact half1 x y w x0 x1 y0 y1
    · exact half2 x y w x0 x1 y0 y1
    · exact half3 x y w x0 x1 y0 y1
    · exact half7 x y w x0 x1 y0 y1
    · exact half8 x y w x0 x1 y0 y1
    · exact half9 x y w x0 x1 y0 y1
    · exact half10 x y w x0 x1 y0 y1
    · exact half14 x y w x0 x1 y0 y1
    · exact half15 x y w x0 x1 y0 y1
    · exact half16 x y w x0 x1 y0 y1
  · rw [show wd.halfE f = 2 from if_neg (by rw [wd.halfOk, decide_eq_true_eq]; exact h), show wd.halfV f x y = 0 from if_neg (by rw [wd.halfOk, decide_eq_true_eq]; exact h)]
    exact (half_no f x y w x0 x1 y0 y1 h).mono fun e w' q => ⟨q.1, q.2 ▸ Below.refl _ _⟩
theorem rhalf_any (f x y : Int) (w : World) (x0 : 0 ≤ x) (x1 : x < 18446744073709551616) (y0 : 0 ≤ y) (y1 : y < 18446744073709551616) :
    Calls Tryz.prog 38 #[.int .i64 f, .int .u64 x, .int .u64 y] w fun e w' => e = .returned (.tuple #[.int .u64 (wd.halfV f x y), .int .i64 (wd.halfE f)]) ∧ w = w' := by
  by_cases h : f = 1 ∨ f = 2 ∨ f = 3 ∨ f = 7 ∨ f = 8 ∨ f = 9 ∨ f = 10 ∨ f = 14 ∨ f = 15 ∨ f = 16
  · rw [show wd.halfE f = 0 from if_pos (decide_eq_true h)]
    rcases h with rfl | rfl | rfl | rfl | rfl | rfl | rfl | rfl | rfl | rfl
    · exact rhalf1 x y w x0 x1 y0 y1
    · exact rhalf2 x y w x0 x1 y0 y1
    · exact rhalf3 x y w x0 x1 y0 y1
    · exact rhalf7 x y w x0 x1 y0 y1
    · exact rhalf8 x y w x0 x1 y0 y1
    · exact rhalf9 x y w x0 x1 y0 y1
    · exact rhalf10 x y w x0 x1 y0 y1
    · exact rhalf14 x y w x0 x1 y0 y1
    · exact rhalf15 x y w x0 x1 y0 y1
    · exact rhalf16 x y w x0 x1 y0 y1
  · rw [show wd.halfE f = 2 from if_neg (by rw [wd.halfOk, decide_eq_true_eq]; exact h), show wd.halfV f x y = 0 from if_neg (by rw [wd.halfOk, decide_eq_true_eq]; exact h)]
    exact rhalf_no f x y w x0 x1 y0 y1 h
end Go.Proofs.YtjjkocklpcdbkaaGreat
