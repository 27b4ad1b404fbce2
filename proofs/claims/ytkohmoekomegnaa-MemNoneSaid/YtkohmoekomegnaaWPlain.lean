/- The word layer in plain Lean: words are integers from 0 to 2^64 - 1. No program in sight. -/
import Derived.Test.YtkohmoekomegnaaBits
namespace Go.Proofs.Ytkohmoekomegnaa.wd
open Go.RowKit (wrap64 wrap32)

/-- the upper half of the product of both as they are -/
def hi (x y : Int) : Int := x * y / 18446744073709551616
/-- what is taken off it for a factor that is below 0 -/
def off (is : Bool) (x y : Int) : Int := if is = true ∧ 9223372036854775808 ≤ x then y else 0
def mulh (x y : Int) (sx sy : Bool) : Int := (hi x y - off sx x y - off sy y x) % 18446744073709551616
def divS (x y : Int) : Int := if y = 0 then 18446744073709551615 else (wrap64 x).tdiv (wrap64 y) % 18446744073709551616
def remS (x y : Int) : Int := if y = 0 then x else (wrap64 x).tmod (wrap64 y) % 18446744073709551616
def divU (x y : Int) : Int := if y = 0 then 18446744073709551615 else x / y
def remU (x y : Int) : Int := if y = 0 then x else x % y
def shl (x n : Int) : Int := x * 2 ^ n.toNat % 18446744073709551616
def shr (x n : Int) : Int := x / 2 ^ n.toNat
def sar (x n : Int) : Int := wrap64 x / 2 ^ n.toNat % 18446744073709551616
def bit (b : Bool) : Int := if b then 1 else 0
/-- what function fn makes of two words -/
def doV (fn x y : Int) : Int :=
  if fn = 1 then (x + y) % 18446744073709551616
  else if fn = 2 then (x - y) % 18446744073709551616
  else if fn = 3 then x * y % 18446744073709551616
  else if fn = 4 then mulh x y true true
  else if fn = 5 then mulh x y false false
  else if fn = 6 then mulh x y true false
  else if fn = 7 then divS x y
  else if fn = 8 then divU x y
  else if fn = 9 then remS x y
  else if fn = 10 then remU x y
  else if fn = 11 then bits .and .u64 x y
  else if fn = 12 then bits .or .u64 x y
  else if fn = 13 then bits .xor .u64 x y
  else if fn = 14 then shl x (y % 64)
  else if fn = 15 then shr x (y % 64)
  else if fn = 16 then sar x (y % 64)
  else if fn = 17 then bit (decide (wrap64 x < wrap64 y))
  else if fn = 18 then bit (decide (x < y))
  else if fn = 19 then bit (x == y)
  else if fn = 20 then bit (x != y)
  else 0
def doE (fn : Int) : Int := if 1 ≤ fn ∧ fn ≤ 20 then 0 else 2

/-- the low part of so many bytes -/
def zx (x n : Int) : Int := if n = 1 then x % 256 else if n = 2 then x % 65536 else if n = 4 then x % 4294967296 else if n = 8 then x else 0
/-- the word that is that, signed -/
def sx (x n : Int) : Int :=
  if n = 1 then (if 128 ≤ x % 256 then x % 256 + 18446744073709551360 else x % 256)
  else if n = 2 then (if 32768 ≤ x % 65536 then x % 65536 + 18446744073709486080 else x % 65536)
  else if n = 4 then (if 2147483648 ≤ x % 4294967296 then x % 4294967296 + 18446744069414584320 else x % 4294967296)
  else if n = 8 then x else 0
/-- is that a size -/
def sizB (n : Int) : Bool := decide (n = 1 ∨ n = 2 ∨ n = 4 ∨ n = 8)

/-- which functions there are of low halves, and what of their operands -/
def halfOk (fn : Int) : Bool := decide (fn = 1 ∨ fn = 2 ∨ fn = 3 ∨ fn = 7 ∨ fn = 8 ∨ fn = 9 ∨ fn = 10 ∨ fn = 14 ∨ fn = 15 ∨ fn = 16)
def halfX (fn x : Int) : Int := if fn = 7 ∨ fn = 9 ∨ fn = 16 then sx x 4 else zx x 4
def halfY (fn y : Int) : Int := if fn = 7 ∨ fn = 9 then sx y 4 else if fn = 14 ∨ fn = 15 ∨ fn = 16 then zx y 4 % 32 else zx y 4
def halfV (fn x y : Int) : Int := if halfOk fn then sx (doV fn (halfX fn x) (halfY fn y)) 4 else 0
def halfE (fn : Int) : Int := if halfOk fn then 0 else 2

theorem doE_of {fn : Int} (h : 1 ≤ fn ∧ fn ≤ 20) : doE fn = 0 := if_pos h
theorem doE_not {fn : Int} (h : ¬ (1 ≤ fn ∧ fn ≤ 20)) : doE fn = 2 := if_neg h
theorem doV_not {fn x y : Int} (h : ¬ (1 ≤ fn ∧ fn ≤ 20)) : doV fn x y = 0 := by
  unfold doV
  repeat (rw [if_neg (by omega)])

theorem wrap64_cases (x : Int) (x0 : 0 ≤ x) (x1 : x < 18446744073709551616) : (x < 9223372036854775808 ∧ wrap64 x = x) ∨ (9223372036854775808 ≤ x ∧ wrap64 x = x - 18446744073709551616) := by
  unfold wrap64
  omega

/-- by halves: the upper half of a product -/
theorem hi_halves (x y : Int) (x0 : 0 ≤ x) (x1 : x < 18446744073709551616) (y0 : 0 ≤ y) (y1 : y < 18446744073709551616) (a b c d : Int) (ha : x / 4294967296 = a) (hb : x % 4294967296 = b) (hc : y / 4294967296 = c) (hd : y % 4294967296 = d) :
    0 ≤ a ∧ a < 4294967296 ∧ 0 ≤ b ∧ b < 4294967296 ∧ 0 ≤ c ∧ c < 4294967296 ∧ 0 ≤ d ∧ d < 4294967296 ∧ x * y = (a * c) * 18446744073709551616 + (a * d + b * c) * 4294967296 + b * d := by
  have ex : x = a * 4294967296 + b := by omega
  have ey : y = c * 4294967296 + d := by omega
  refine ⟨by omega, by omega, by omega, by omega, by omega, by omega, by omega, by omega, ?_⟩
  rw [ex, ey]
  simp only [Int.add_mul, Int.mul_add]
  have h1 : a * 4294967296 * (c * 4294967296) = a * c * 18446744073709551616 := by
    rw [Int.mul_assoc, ← Int.mul_assoc 4294967296 c, Int.mul_comm 4294967296 c, Int.mul_assoc c, ← Int.mul_assoc a c]; rfl
  have h2 : a * 4294967296 * d = a * d * 4294967296 := by rw [Int.mul_assoc, Int.mul_comm 4294967296 d, ← Int.mul_assoc]
  have h3 : b * (c * 4294967296) = b * c * 4294967296 := by rw [← Int.mul_assoc]
  omega
theorem prod_bd (a b : Int) (a0 : 0 ≤ a) (a1 : a < 4294967296) (b0 : 0 ≤ b) (b1 : b < 4294967296) : 0 ≤ a * b ∧ a * b ≤ 18446744065119617025 :=
  ⟨Int.mul_nonneg a0 b0, Int.le_trans (Int.mul_le_mul (show a ≤ 4294967295 by omega) (show b ≤ 4294967295 by omega) b0 (by omega)) (by decide)⟩
end Go.Proofs.Ytkohmoekomegnaa.wd
