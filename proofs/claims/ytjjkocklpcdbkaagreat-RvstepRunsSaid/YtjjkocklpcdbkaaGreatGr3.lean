/- The words and their fields, in plain numbers. What read reads, in plain numbers. What the word of an instruction has. Encoded and decoded again, in plain words. -/
import Derived.Test.YtjjkocklpcdbkaaGreatRvCode
namespace Go.Proofs.YtjjkocklpcdbkaaGreat
open Go.RowKit
set_option linter.unusedVariables false
set_option maxRecDepth 100000
namespace rv
theorem nat_or_add (A x i n : Nat) (h : A / 2 ^ i % 2 ^ n = 0) (hx : x < 2 ^ n) : A ||| x * 2 ^ i = A + x * 2 ^ i := by
  have hi := Nat.two_pow_pos i
  have e1 : A / 2 ^ i = A / 2 ^ i / 2 ^ n * 2 ^ n := by
    have := Nat.div_add_mod (A / 2 ^ i) (2 ^ n)
    rw [h, Nat.add_zero, Nat.mul_comm] at this
    exact this.symm
  have e2 : A = A / 2 ^ i / 2 ^ n * 2 ^ n * 2 ^ i + A % 2 ^ i := by
    rw [← e1]
    have := Nat.div_add_mod A (2 ^ i)
    rw [Nat.mul_comm] at this
    exact this.symm
  have hL : A % 2 ^ i < 2 ^ i := Nat.mod_lt _ hi
  generalize A / 2 ^ i / 2 ^ n = q at *
  generalize A % 2 ^ i = L at *
  have hH : q * 2 ^ n * 2 ^ i % 2 ^ i = 0 := Nat.mul_mod_left _ _
  have hH2 : q * 2 ^ n * 2 ^ i % 2 ^ (i + n) = 0 := by
    rw [Nat.mul_assoc, ← Nat.pow_add, Nat.add_comm n i]
    exact Nat.mul_mod_left _ _
  have hx1 : x * 2 ^ i % 2 ^ i = 0 := Nat.mul_mod_left _ _
  have hb : x * 2 ^ i + L < 2 ^ (i + n) := by
    have h1 : (x + 1) * 2 ^ i ≤ 2 ^ n * 2 ^ i := Nat.mul_le_mul_right _ hx
    rw [← Nat.pow_add, Nat.add_comm n i, Nat.succ_mul] at h1
    omega
  rw [e2, ← nat_join i _ L hH hL, Nat.or_assoc, Nat.or_comm L, nat_join i _ L hx1 hL, nat_join (i + n) _ _ hH2 hb, nat_join i _ L hH hL]
  omega
theorem or_int (i n : Nat) (A x p q : Int) (hp : p = 2 ^ i) (hq : q = 2 ^ n) (hA0 : 0 ≤ A) (hx0 : 0 ≤ x) (hx : x < q) (h : A / p % q = 0) : ((A.toNat ||| (x * p).toNat : Nat) : Int) = A + x * p := by
  obtain ⟨A, rfl⟩ := Int.eq_ofNat_of_zero_le hA0
  obtain ⟨x, rfl⟩ := Int.eq_ofNat_of_zero_le hx0
  subst hp hq
  have e1 : ((x : Int) * 2 ^ i) = ((x * 2 ^ i : Nat) : Int) := by simp
  have e2 : (A : Int) / 2 ^ i % 2 ^ n = ((A / 2 ^ i % 2 ^ n : Nat) : Int) := by simp
  rw [e2] at h
  have hx' : x < 2 ^ n := by
    have e3 : ((2 : Int) ^ n) = ((2 ^ n : Nat) : Int) := by simp
    rw [e3] at hx
    exact Int.ofNat_lt.mp hx
  rw [e1, Int.toNat_natCast, Int.toNat_natCast, nat_or_add A x i n (by exact_mod_cast h) hx']
  simp
theorem mask32 (i : Nat) (x q : Int) (m : Int) (hq : q = 2 ^ i) (hm : m = q - 1) (hi : i < 32) (h1 : 0 ≤ x) (h2 : x < 4294967296) : bits .and .u32 x m = x % q := by
  obtain ⟨x, rfl⟩ := Int.eq_ofNat_of_zero_le h1
  subst hq
  have hp : 0 < 2 ^ i := Nat.two_pow_pos i
  have hq : 2 ^ i ≤ 2 ^ 31 := Nat.pow_le_pow_right (by omega) (by omega)
  have e31 : (2 : Nat) ^ 31 = 2147483648 := rfl
  rw [e31] at hq
  have e : m = ((2 ^ i - 1 : Nat) : Int) := by rw [hm, Int.natCast_sub hp]; simp
  rw [e, u32_and_nat _ _ (by omega) (by omega), Nat.and_two_pow_sub_one_eq_mod]
  simp
theorem or32 (i n : Nat) (A x p q : Int) (hp : p = 2 ^ i) (hq : q = 2 ^ n) (hA0 : 0 ≤ A) (hA1 : A < 4294967296) (hx0 : 0 ≤ x) (hx : x < q) (hxp : x * p < 4294967296) (hp0 : 0 ≤ x * p) (h : A / p % q = 0) : bits .or .u32 A (x * p % 4294967296) = A + x * p := by
  rw [Int.emod_eq_of_lt hp0 hxp, u32_or _ _ hA0 hA1 hp0 hxp]
  exact or_int i n A x p q hp hq hA0 hx0 hx h
theorem or_piece (i n : Nat) (A z m p q : Int) (hp : p = 2 ^ i) (hq : q = 2 ^ n) (hm : m = q - 1) (hn : n < 32) (hA0 : 0 ≤ A) (hA1 : A < 4294967296) (hz0 : 0 ≤ z) (hz1 : z < 4294967296) (hxp : z % q * p < 4294967296) (hp0 : 0 ≤ z % q * p) (hq1 : 0 < q) (h : A / p % q = 0) :
    bits .or .u32 A (bits .and .u32 z m * p % 4294967296) = A + z % q * p := by
  rw [mask32 n z q m hq hm hn hz0 hz1]
  exact or32 i n A (z % q) p q hp hq hA0 hA1 (Int.emod_nonneg _ (by omega)) (Int.emod_lt_of_pos _ hq1) hxp hp0 h
theorem ext (v lo x hi p q : Int) (h : v = lo + x * p + hi * (p * q)) (hp : 0 < p) (hl0 : 0 ≤ lo) (hl : lo < p) (hx0 : 0 ≤ x) (hx : x < q) : v / p % q = x := by
  have e : v = lo + p * (x + q * hi) := by
    have e1 : hi * (p * q) = p * (q * hi) := by rw [Int.mul_comm, Int.mul_assoc]
    rw [h, e1, Int.mul_add, Int.mul_comm x p, Int.add_assoc]
  rw [e, Int.add_mul_ediv_left _ _ (by omega), Int.ediv_eq_zero_of_lt hl0 hl, Int.zero_add, Int.add_mul_emod_self_left, Int.emod_eq_of_lt hx0 hx]
theorem VR_sum (a b c rd rs1 rs2 im : Int) (ha : 0 ≤ a ∧ a < 128) (hb : 0 ≤ b ∧ b < 8) (hc : 0 ≤ c ∧ c < 64) (hrd : 0 ≤ rd ∧ rd ≤ 31) (hrs1 : 0 ≤ rs1 ∧ rs1 ≤ 31) (hrs2 : 0 ≤ rs2 ∧ rs2 ≤ 31) :
    VR a b c rd rs1 rs2 im 3 = a + b * 4096 + c * 33554432 + rd * 128 + rs1 * 32768 + rs2 * 1048576 := by
  have mrd : rd % 4294967296 % 32 = rd := by omega
  have mrs1 : rs1 % 4294967296 % 32 = rs1 := by omega
  have mrs2 : rs2 % 4294967296 % 32 = rs2 := by omega
  simp only [VR]
  rw [or32 12 3 a b 4096 8 rfl rfl (by omega) (by omega) (by omega) (by omega) (by omega) (by omega) (ext _ (a) 0 0 4096 8 (by omega) (by omega) (by omega) (by omega) (by omega) (by omega))]
  rw [or32 25 6 _ c 33554432 64 rfl rfl (by omega) (by omega) (by omega) (by omega) (by omega) (by omega) (ext _ (a + b * 4096) 0 0 33554432 64 (by omega) (by omega) (by omega) (by omega) (by omega) (by omega))]
  rw [or_piece 7 5 _ (rd % 4294967296) 31 128 32 rfl rfl rfl (by omega) (by omega) (by omega) (by omega) (by omega) (by omega) (by omega) (by omega) (ext _ (a) 0 (b + c * 8192) 128 32 (by omega) (by omega) (by omega) (by omega) (by omega) (by omega)), mrd]
  rw [or_piece 15 5 _ (rs1 % 4294967296) 31 32768 32 rfl rfl rfl (by omega) (by omega) (by omega) (by omega) (by omega) (by omega) (by omega) (by omega) (ext _ (a + b * 4096 + rd * 128) 0 (c * 32) 32768 32 (by omega) (by omega) (by omega) (by omega) (by omega) (by omega)), mrs1]
  rw [or_piece 20 5 _ (rs2 % 4294967296) 31 1048576 32 rfl rfl rfl (by omega) (by omega) (by omega) (by omega) (by omega) (by omega) (by omega) (by omega) (ext _ (a + b * 4096 + rd * 128 + rs1 * 32768) 0 (c) 1048576 32 (by omega) (by omega) (by omega) (by omega) (by omega) (by omega)), mrs2]
theorem VR_has (a b c rd rs1 rs2 im v : Int) (ha : 0 ≤ a ∧ a < 128) (hb : 0 ≤ b ∧ b < 8) (hc : 0 ≤ c ∧ c < 64) (hrd : 0 ≤ rd ∧ rd ≤ 31) (hrs1 : 0 ≤ rs1 ∧ rs1 ≤ 31) (hrs2 : 0 ≤ rs2 ∧ rs2 ≤ 31) (hv : v = a + b * 4096 + c * 33554432 + rd * 128 + rs1 * 32768 + rs2 * 1048576) :
    (0 ≤ v ∧ v < 4294967296) ∧ v % 128 = a ∧ v / 4096 % 8 = b ∧ v / 33554432 % 64 = c ∧ v / 128 % 32 = rd ∧ v / 32768 % 32 = rs1 ∧ v / 1048576 % 32 = rs2 := by
  refine ⟨?_, ?_, ?_, ?_, ?_, ?_, ?_⟩
  · omega
  · have := ext v 0 a (b * 32 + c * 262144 + rd + rs1 * 256 + rs2 * 8192) 1 128 (by rw [hv]; omega) (by omega) (by omega) (by omega) (by omega) (by omega)
    omega
  · exact ext v (a + rd * 128) b (c * 1024 + rs1 + rs2 * 32) 4096 8 (by rw [hv]; omega) (by omega) (by omega) (by omega) (by omega) (by omega)
  · exact ext v (a + b * 4096 + rd * 128 + rs1 * 32768 + rs2 * 1048576) c 0 33554432 64 (by rw [hv]; omega) (by omega) (by omega) (by omega) (by omega) (by omega)
  · exact ext v (a) rd (b + c * 8192 + rs1 * 8 + rs2 * 256) 128 32 (by rw [hv]; omega) (by omega) (by omega) (by omega) (by omega) (by omega)
  · exact ext v (a + b * 4096 + rd * 128) rs1 (c * 32 + rs2) 32768 32 (by rw [hv]; omega) (by omega) (by omega) (by omega) (by omega) (by omega)
  · exact ext v (a + b * 4096 + rd * 128 + rs1 * 32768) rs2 (c) 1048576 32 (by rw [hv]; omega) (by omega) (by omega) (by omega) (by omega) (by omega)
theorem VI_sum (a b c rd rs1 rs2 im : Int) (ha : 0 ≤ a ∧ a < 128) (hb : 0 ≤ b ∧ b < 8) (hc : 0 ≤ c ∧ c < 64) (hrd : 0 ≤ rd ∧ rd ≤ 31) (hrs1 : 0 ≤ rs1 ∧ rs1 ≤ 31) :
    VI a b c rd rs1 rs2 im 3 = a + b * 4096 + rd * 128 + rs1 * 32768 + im % 4096 * 1048576 := by
  have mrd : rd % 4294967296 % 32 = rd := by omega
  have mrs1 : rs1 % 4294967296 % 32 = rs1 := by omega
  obtain ⟨x0, hx0⟩ : ∃ x, im % 4096 = x := ⟨_, rfl⟩
  have b0 : 0 ≤ x0 ∧ x0 < 4096 := by rw [← hx0]; exact ⟨Int.emod_nonneg _ (by omega), Int.emod_lt_of_pos _ (by omega)⟩
  have y0 : im % 4294967296 % 4096 = x0 := by rw [← hx0]; omega
  have z0 : 0 ≤ im % 4294967296 ∧ im % 4294967296 < 4294967296 := by omega
  rw [hx0]
  simp only [VI]
  rw [or32 12 3 a b 4096 8 rfl rfl (by omega) (by omega) (by omega) (by omega) (by omega) (by omega) (ext _ (a) 0 0 4096 8 (by omega) (by omega) (by omega) (by omega) (by omega) (by omega))]
  rw [or_piece 7 5 _ (rd % 4294967296) 31 128 32 rfl rfl rfl (by omega) (by omega) (by omega) (by omega) (by omega) (by omega) (by omega) (by omega) (ext _ (a) 0 (b) 128 32 (by omega) (by omega) (by omega) (by omega) (by omega) (by omega)), mrd]
  rw [or_piece 15 5 _ (rs1 % 4294967296) 31 32768 32 rfl rfl rfl (by omega) (by omega) (by omega) (by omega) (by omega) (by omega) (by omega) (by omega) (ext _ (a + b * 4096 + rd * 128) 0 0 32768 32 (by omega) (by omega) (by omega) (by omega) (by omega) (by omega)), mrs1]
  rw [or_piece 20 12 _ (im % 4294967296) 4095 1048576 4096 rfl rfl rfl (by omega) (by omega) (by omega) z0.1 z0.2 (by rw [y0]; omega) (by rw [y0]; omega) (by omega) (ext _ (a + b * 4096 + rd * 128 + rs1 * 32768) 0 0 1048576 4096 (by omega) (by omega) (by omega) (by omega) (by omega) (by omega)), y0]
theorem VI_has (a b c rd rs1 rs2 im v : Int) (ha : 0 ≤ a ∧ a < 128) (hb : 0 ≤ b ∧ b < 8) (hc : 0 ≤ c ∧ c < 64) (hrd : 0 ≤ rd ∧ rd ≤ 31) (hrs1 : 0 ≤ rs1 ∧ rs1 ≤ 31) (him : -2048 ≤ im ∧ im ≤ 2047) (hv : v = a + b * 4096 + rd * 128 + rs1 * 32768 + im % 4096 * 1048576) :
    (0 ≤ v ∧ v < 4294967296) ∧ v % 128 = a ∧ v / 4096 % 8 = b ∧ v / 128 % 32 = rd ∧ v / 32768 % 32 = rs1 ∧ (if (v / 1048576 % 4096) / 2048 = 1 then v / 1048576 % 4096 - 4096 else v / 1048576 % 4096) = im := by
  obtain ⟨x0, hx0⟩ : ∃ x, im % 4096 = x := ⟨_, rfl⟩
  rw [hx0] at hv
  have b0 : 0 ≤ x0 ∧ x0 < 4096 := by rw [← hx0]; exact ⟨Int.emod_nonneg _ (by omega), Int.emod_lt_of_pos _ (by omega)⟩
  have keys : True := trivial
  refine ⟨?_, ?_, ?_, ?_, ?_, ?_⟩
  rotate_left 5
  · have e0 : v / 1048576 % 4096 = x0 := ext v (a + b * 4096 + rd * 128 + rs1 * 32768) x0 0 1048576 4096 (by rw [hv]; omega) (by omega) (by omega) (by omega) (by omega) (by omega)
    rw [e0]
    clear hv e0
    split <;> omega
  all_goals clear him hx0
  · omega
  · have := ext v 0 a (b * 32 + rd + rs1 * 256 + x0 * 8192) 1 128 (by rw [hv]; omega) (by omega) (by omega) (by omega) (by omega) (by omega)
    omega
  · exact ext v (a + rd * 128) b (rs1 + x0 * 32) 4096 8 (by rw [hv]; omega) (by omega) (by omega) (by omega) (by omega) (by omega)
  · exact ext v (a) rd (b + rs1 * 8 + x0 * 256) 128 32 (by rw [hv]; omega) (by omega) (by omega) (by omega) (by omega) (by omega)
  · exact ext v (a + b * 4096 + rd * 128) rs1 (x0) 32768 32 (by rw [hv]; omega) (by omega) (by omega) (by omega) (by omega) (by omega)
theorem VX_sum (a b c rd rs1 rs2 im : Int) (ha : 0 ≤ a ∧ a < 128) (hb : 0 ≤ b ∧ b < 8) (hc : 0 ≤ c ∧ c < 64) (hrd : 0 ≤ rd ∧ rd ≤ 31) (hrs1 : 0 ≤ rs1 ∧ rs1 ≤ 31) :
    VX a b c rd rs1 rs2 im 3 = a + b * 4096 + c * 67108864 + rd * 128 + rs1 * 32768 + im % 64 * 1048576 := by
  have mrd : rd % 4294967296 % 32 = rd := by omega
  have mrs1 : rs1 % 4294967296 % 32 = rs1 := by omega
  obtain ⟨x0, hx0⟩ : ∃ x, im % 64 = x := ⟨_, rfl⟩
  have b0 : 0 ≤ x0 ∧ x0 < 64 := by rw [← hx0]; exact ⟨Int.emod_nonneg _ (by omega), Int.emod_lt_of_pos _ (by omega)⟩
  have y0 : im % 4294967296 % 64 = x0 := by rw [← hx0]; omega
  have z0 : 0 ≤ im % 4294967296 ∧ im % 4294967296 < 4294967296 := by omega
  rw [hx0]
  simp only [VX]
  rw [or32 12 3 a b 4096 8 rfl rfl (by omega) (by omega) (by omega) (by omega) (by omega) (by omega) (ext _ (a) 0 0 4096 8 (by omega) (by omega) (by omega) (by omega) (by omega) (by omega))]
  rw [or32 26 6 _ c 67108864 64 rfl rfl (by omega) (by omega) (by omega) (by omega) (by omega) (by omega) (ext _ (a + b * 4096) 0 0 67108864 64 (by omega) (by omega) (by omega) (by omega) (by omega) (by omega))]
  rw [or_piece 7 5 _ (rd % 4294967296) 31 128 32 rfl rfl rfl (by omega) (by omega) (by omega) (by omega) (by omega) (by omega) (by omega) (by omega) (ext _ (a) 0 (b + c * 16384) 128 32 (by omega) (by omega) (by omega) (by omega) (by omega) (by omega)), mrd]
  rw [or_piece 15 5 _ (rs1 % 4294967296) 31 32768 32 rfl rfl rfl (by omega) (by omega) (by omega) (by omega) (by omega) (by omega) (by omega) (by omega) (ext _ (a + b * 4096 + rd * 128) 0 (c * 64) 32768 32 (by omega) (by omega) (by omega) (by omega) (by omega) (by omega)), mrs1]
  rw [or_piece 20 6 _ (im % 4294967296) 63 1048576 64 rfl rfl rfl (by omega) (by omega) (by omega) z0.1 z0.2 (by rw [y0]; omega) (by rw [y0]; omega) (by omega) (ext _ (a + b * 4096 + rd * 128 + rs1 * 32768) 0 (c) 1048576 64 (by omega) (by omega) (by omega) (by omega) (by omega) (by omega)), y0]
theorem VX_has (a b c rd rs1 rs2 im v : Int) (ha : 0 ≤ a ∧ a < 128) (hb : 0 ≤ b ∧ b < 8) (hc : 0 ≤ c ∧ c < 64) (hrd : 0 ≤ rd ∧ rd ≤ 31) (hrs1 : 0 ≤ rs1 ∧ rs1 ≤ 31) (him : 0 ≤ im ∧ im ≤ 63) (hv : v = a + b * 4096 + c * 67108864 + rd * 128 + rs1 * 32768 + im % 64 * 1048576) :
    (0 ≤ v ∧ v < 4294967296) ∧ v % 128 = a ∧ v / 4096 % 8 = b ∧ v / 67108864 % 64 = c ∧ v / 128 % 32 = rd ∧ v / 32768 % 32 = rs1 ∧ v / 1048576 % 64 = im := by
  obtain ⟨x0, hx0⟩ : ∃ x, im % 64 = x := ⟨_, rfl⟩
  rw [hx0] at hv
  have b0 : 0 ≤ x0 ∧ x0 < 64 := by rw [← hx0]; exact ⟨Int.emod_nonneg _ (by omega), Int.emod_lt_of_pos _ (by omega)⟩
  have keys : True := trivial
  refine ⟨?_, ?_, ?_, ?_, ?_, ?_, ?_⟩
  rotate_left 6
  · have e0 : v / 1048576 % 64 = x0 := ext v (a + b * 4096 + rd * 128 + rs1 * 32768) x0 (c) 1048576 64 (by rw [hv]; omega) (by omega) (by omega) (by omega) (by omega) (by omega)
    rw [e0]
    clear hv e0
    omega
  all_goals clear him hx0
  · omega
  · have := ext v 0 a (b * 32 + c * 524288 + rd + rs1 * 256 + x0 * 8192) 1 128 (by rw [hv]; omega) (by omega) (by omega) (by omega) (by omega) (by omega)
    omega
  · exact ext v (a + rd * 128) b (c * 2048 + rs1 + x0 * 32) 4096 8 (by rw [hv]; omega) (by omega) (by omega) (by omega) (by omega) (by omega)
  · exact ext v (a + b * 4096 + rd * 128 + rs1 * 32768 + x0 * 1048576) c 0 67108864 64 (by rw [hv]; omega) (by omega) (by omega) (by omega) (by omega) (by omega)
  · exact ext v (a) rd (b + c * 16384 + rs1 * 8 + x0 * 256) 128 32 (by rw [hv]; omega) (by omega) (by omega) (by omega) (by omega) (by omega)
  · exact ext v (a + b * 4096 + rd * 128) rs1 (c * 64 + x0) 32768 32 (by rw [hv]; omega) (by omega) (by omega) (by omega) (by omega) (by omega)
theorem VY_sum (a b c rd rs1 rs2 im : Int) (ha : 0 ≤ a ∧ a < 128) (hb : 0 ≤ b ∧ b < 8) (hc : 0 ≤ c ∧ c < 64) (hrd : 0 ≤ rd ∧ rd ≤ 31) (hrs1 : 0 ≤ rs1 ∧ rs1 ≤ 31) :
    VY a b c rd rs1 rs2 im 3 = a + b * 4096 + c * 33554432 + rd * 128 + rs1 * 32768 + im % 32 * 1048576 := by
  have mrd : rd % 4294967296 % 32 = rd := by omega
  have mrs1 : rs1 % 4294967296 % 32 = rs1 := by omega
  obtain ⟨x0, hx0⟩ : ∃ x, im % 32 = x := ⟨_, rfl⟩
  have b0 : 0 ≤ x0 ∧ x0 < 32 := by rw [← hx0]; exact ⟨Int.emod_nonneg _ (by omega), Int.emod_lt_of_pos _ (by omega)⟩
  have y0 : im % 4294967296 % 32 = x0 := by rw [← hx0]; omega
  have z0 : 0 ≤ im % 4294967296 ∧ im % 4294967296 < 4294967296 := by omega
  rw [hx0]
  simp only [VY]
  rw [or32 12 3 a b 4096 8 rfl rfl (by omega) (by omega) (by omega) (by omega) (by omega) (by omega) (ext _ (a) 0 0 4096 8 (by omega) (by omega) (by omega) (by omega) (by omega) (by omega))]
  rw [or32 25 6 _ c 33554432 64 rfl rfl (by omega) (by omega) (by omega) (by omega) (by omega) (by omega) (ext _ (a + b * 4096) 0 0 33554432 64 (by omega) (by omega) (by omega) (by omega) (by omega) (by omega))]
  rw [or_piece 7 5 _ (rd % 4294967296) 31 128 32 rfl rfl rfl (by omega) (by omega) (by omega) (by omega) (by omega) (by omega) (by omega) (by omega) (ext _ (a) 0 (b + c * 8192) 128 32 (by omega) (by omega) (by omega) (by omega) (by omega) (by omega)), mrd]
  rw [or_piece 15 5 _ (rs1 % 4294967296) 31 32768 32 rfl rfl rfl (by omega) (by omega) (by omega) (by omega) (by omega) (by omega) (by omega) (by omega) (ext _ (a + b * 4096 + rd * 128) 0 (c * 32) 32768 32 (by omega) (by omega) (by omega) (by omega) (by omega) (by omega)), mrs1]
  rw [or_piece 20 5 _ (im % 4294967296) 31 1048576 32 rfl rfl rfl (by omega) (by omega) (by omega) z0.1 z0.2 (by rw [y0]; omega) (by rw [y0]; omega) (by omega) (ext _ (a + b * 4096 + rd * 128 + rs1 * 32768) 0 (c) 1048576 32 (by omega) (by omega) (by omega) (by omega) (by omega) (by omega)), y0]
theorem VY_has (a b c rd rs1 rs2 im v : Int) (ha : 0 ≤ a ∧ a < 128) (hb : 0 ≤ b ∧ b < 8) (hc : 0 ≤ c ∧ c < 64) (hrd : 0 ≤ rd ∧ rd ≤ 31) (hrs1 : 0 ≤ rs1 ∧ rs1 ≤ 31) (him : 0 ≤ im ∧ im ≤ 31) (hv : v = a + b * 4096 + c * 33554432 + rd * 128 + rs1 * 32768 + im % 32 * 1048576) :
    (0 ≤ v ∧ v < 4294967296) ∧ v % 128 = a ∧ v / 4096 % 8 = b ∧ v / 33554432 % 64 = c ∧ v / 128 % 32 = rd ∧ v / 32768 % 32 = rs1 ∧ v / 1048576 % 32 = im := by
  obtain ⟨x0, hx0⟩ : ∃ x, im % 32 = x := ⟨_, rfl⟩
  rw [hx0] at hv
  have b0 : 0 ≤ x0 ∧ x0 < 32 := by rw [← hx0]; exact ⟨Int.emod_nonneg _ (by omega), Int.emod_lt_of_pos _ (by omega)⟩
  have keys : True := trivial
  refine ⟨?_, ?_, ?_, ?_, ?_, ?_, ?_⟩
  rotate_left 6
  · have e0 : v / 1048576 % 32 = x0 := ext v (a + b * 4096 + rd * 128 + rs1 * 32768) x0 (c) 1048576 32 (by rw [hv]; omega) (by omega) (by omega) (by omega) (by omega) (by omega)
    rw [e0]
    clear hv e0
    omega
  all_goals clear him hx0
  · omega
  · have := ext v 0 a (b * 32 + c * 262144 + rd + rs1 * 256 + x0 * 8192) 1 128 (by rw [hv]; omega) (by omega) (by omega) (by omega) (by omega) (by omega)
    omega
  · exact ext v (a + rd * 128) b (c * 1024 + rs1 + x0 * 32) 4096 8 (by rw [hv]; omega) (by omega) (by omega) (by omega) (by omega) (by omega)
  · exact ext v (a + b * 4096 + rd * 128 + rs1 * 32768 + x0 * 1048576) c 0 33554432 64 (by rw [hv]; omega) (by omega) (by omega) (by omega) (by omega) (by omega)
  · exact ext v (a) rd (b + c * 8192 + rs1 * 8 + x0 * 256) 128 32 (by rw [hv]; omega) (by omega) (by omega) (by omega) (by omega) (by omega)
  · exact ext v (a + b * 4096 + rd * 128) rs1 (c * 32 + x0) 32768 32 (by rw [hv]; omega) (by omega) (by omega) (by omega) (by omega) (by omega)
theorem VS_sum (a b c rd rs1 rs2 im : Int) (ha : 0 ≤ a ∧ a < 128) (hb : 0 ≤ b ∧ b < 8) (hc : 0 ≤ c ∧ c < 64) (hrs1 : 0 ≤ rs1 ∧ rs1 ≤ 31) (hrs2 : 0 ≤ rs2 ∧ rs2 ≤ 31) :
    VS a b c rd rs1 rs2 im 3 = a + b * 4096 + rs1 * 32768 + rs2 * 1048576 + im % 32 * 128 + im / 32 % 128 * 33554432 := by
  have mrs1 : rs1 % 4294967296 % 32 = rs1 := by omega
  have mrs2 : rs2 % 4294967296 % 32 = rs2 := by omega
  obtain ⟨x0, hx0⟩ : ∃ x, im % 32 = x := ⟨_, rfl⟩
  have b0 : 0 ≤ x0 ∧ x0 < 32 := by rw [← hx0]; exact ⟨Int.emod_nonneg _ (by omega), Int.emod_lt_of_pos _ (by omega)⟩
  have y0 : im % 4294967296 % 32 = x0 := by rw [← hx0]; omega
  have z0 : 0 ≤ im % 4294967296 ∧ im % 4294967296 < 4294967296 := by omega
  obtain ⟨x1, hx1⟩ : ∃ x, im / 32 % 128 = x := ⟨_, rfl⟩
  have b1 : 0 ≤ x1 ∧ x1 < 128 := by rw [← hx1]; exact ⟨Int.emod_nonneg _ (by omega), Int.emod_lt_of_pos _ (by omega)⟩
  have y1 : im % 4294967296 / 32 % 128 = x1 := by rw [← hx1]; omega
  have z1 : 0 ≤ im % 4294967296 / 32 ∧ im % 4294967296 / 32 < 4294967296 := by omega
  rw [hx0, hx1]
  simp only [VS]
  rw [or32 12 3 a b 4096 8 rfl rfl (by omega) (by omega) (by omega) (by omega) (by omega) (by omega) (ext _ (a) 0 0 4096 8 (by omega) (by omega) (by omega) (by omega) (by omega) (by omega))]
  rw [or_piece 15 5 _ (rs1 % 4294967296) 31 32768 32 rfl rfl rfl (by omega) (by omega) (by omega) (by omega) (by omega) (by omega) (by omega) (by omega) (ext _ (a + b * 4096) 0 0 32768 32 (by omega) (by omega) (by omega) (by omega) (by omega) (by omega)), mrs1]
  rw [or_piece 20 5 _ (rs2 % 4294967296) 31 1048576 32 rfl rfl rfl (by omega) (by omega) (by omega) (by omega) (by omega) (by omega) (by omega) (by omega) (ext _ (a + b * 4096 + rs1 * 32768) 0 0 1048576 32 (by omega) (by omega) (by omega) (by omega) (by omega) (by omega)), mrs2]
  rw [or_piece 7 5 _ (im % 4294967296) 31 128 32 rfl rfl rfl (by omega) (by omega) (by omega) z0.1 z0.2 (by rw [y0]; omega) (by rw [y0]; omega) (by omega) (ext _ (a) 0 (b + rs1 * 8 + rs2 * 256) 128 32 (by omega) (by omega) (by omega) (by omega) (by omega) (by omega)), y0]
  rw [or_piece 25 7 _ (im % 4294967296 / 32) 127 33554432 128 rfl rfl rfl (by omega) (by omega) (by omega) z1.1 z1.2 (by rw [y1]; omega) (by rw [y1]; omega) (by omega) (ext _ (a + b * 4096 + rs1 * 32768 + rs2 * 1048576 + x0 * 128) 0 0 33554432 128 (by omega) (by omega) (by omega) (by omega) (by omega) (by omega)), y1]
theorem VS_has (a b c rd rs1 rs2 im v : Int) (ha : 0 ≤ a ∧ a < 128) (hb : 0 ≤ b ∧ b < 8) (hc : 0 ≤ c ∧ c < 64) (hrs1 : 0 ≤ rs1 ∧ rs1 ≤ 31) (hrs2 : 0 ≤ rs2 ∧ rs2 ≤ 31) (him : -2048 ≤ im ∧ im ≤ 2047) (hv : v = a + b * 4096 + rs1 * 32768 + rs2 * 1048576 + im % 32 * 128 + im / 32 % 128 * 33554432) :
    (0 ≤ v ∧ v < 4294967296) ∧ v % 128 = a ∧ v / 4096 % 8 = b ∧ v / 32768 % 32 = rs1 ∧ v / 1048576 % 32 = rs2 ∧ (if (v / 128 % 32 + v / 33554432 % 128 * 32) / 2048 = 1 then v / 128 % 32 + v / 33554432 % 128 * 32 - 4096 else v / 128 % 32 + v / 33554432 % 128 * 32) = im := by
  obtain ⟨x0, hx0⟩ : ∃ x, im % 32 = x := ⟨_, rfl⟩
  obtain ⟨x1, hx1⟩ : ∃ x, im / 32 % 128 = x := ⟨_, rfl⟩
  rw [hx0, hx1] at hv
  have b0 : 0 ≤ x0 ∧ x0 < 32 := by rw [← hx0]; exact ⟨Int.emod_nonneg _ (by omega), Int.emod_lt_of_pos _ (by omega)⟩
  have b1 : 0 ≤ x1 ∧ x1 < 128 := by rw [← hx1]; exact ⟨Int.emod_nonneg _ (by omega), Int.emod_lt_of_pos _ (by omega)⟩
  have keys : True := trivial
  refine ⟨?_, ?_, ?_, ?_, ?_, ?_⟩
  rotate_left 5
  · have e0 : v / 128 % 32 = x0 := ext v (a) x0 (b + rs1 * 8 + rs2 * 256 + x1 * 8192) 128 32 (by rw [hv]; omega) (by omega) (by omega) (by omega) (by omega) (by omega)
    have e1 : v / 33554432 % 128 = x1 := ext v (a + b * 4096 + rs1 * 32768 + rs2 * 1048576 + x0 * 128) x1 0 33554432 128 (by rw [hv]; omega) (by omega) (by omega) (by omega) (by omega) (by omega)
    rw [e0, e1]
    clear hv e0 e1
    split <;> omega
  all_goals clear him hx0 hx1
  · omega
  · have := ext v 0 a (b * 32 + rs1 * 256 + rs2 * 8192 + x0 + x1 * 262144) 1 128 (by rw [hv]; omega) (by omega) (by omega) (by omega) (by omega) (by omega)
    omega
  · exact ext v (a + x0 * 128) b (rs1 + rs2 * 32 + x1 * 1024) 4096 8 (by rw [hv]; omega) (by omega) (by omega) (by omega) (by omega) (by omega)
  · exact ext v (a + b * 4096 + x0 * 128) rs1 (rs2 + x1 * 32) 32768 32 (by rw [hv]; omega) (by omega) (by omega) (by omega) (by omega) (by omega)
  · exact ext v (a + b * 4096 + rs1 * 32768 + x0 * 128) rs2 (x1) 1048576 32 (by rw [hv]; omega) (by omega) (by omega) (by omega) (by omega) (by omega)
theorem VB_sum (a b c rd rs1 rs2 im : Int) (ha : 0 ≤ a ∧ a < 128) (hb : 0 ≤ b ∧ b < 8) (hc : 0 ≤ c ∧ c < 64) (hrs1 : 0 ≤ rs1 ∧ rs1 ≤ 31) (hrs2 : 0 ≤ rs2 ∧ rs2 ≤ 31) :
    VB a b c rd rs1 rs2 im 3 = a + b * 4096 + rs1 * 32768 + rs2 * 1048576 + im / 2048 % 2 * 128 + im / 2 % 16 * 256 + im / 32 % 64 * 33554432 + im / 4096 % 2 * 2147483648 := by
  have mrs1 : rs1 % 4294967296 % 32 = rs1 := by omega
  have mrs2 : rs2 % 4294967296 % 32 = rs2 := by omega
  obtain ⟨x0, hx0⟩ : ∃ x, im / 2048 % 2 = x := ⟨_, rfl⟩
  have b0 : 0 ≤ x0 ∧ x0 < 2 := by rw [← hx0]; exact ⟨Int.emod_nonneg _ (by omega), Int.emod_lt_of_pos _ (by omega)⟩
  have y0 : im % 4294967296 / 2048 % 2 = x0 := by rw [← hx0]; omega
  have z0 : 0 ≤ im % 4294967296 / 2048 ∧ im % 4294967296 / 2048 < 4294967296 := by omega
  obtain ⟨x1, hx1⟩ : ∃ x, im / 2 % 16 = x := ⟨_, rfl⟩
  have b1 : 0 ≤ x1 ∧ x1 < 16 := by rw [← hx1]; exact ⟨Int.emod_nonneg _ (by omega), Int.emod_lt_of_pos _ (by omega)⟩
  have y1 : im % 4294967296 / 2 % 16 = x1 := by rw [← hx1]; omega
  have z1 : 0 ≤ im % 4294967296 / 2 ∧ im % 4294967296 / 2 < 4294967296 := by omega
  obtain ⟨x2, hx2⟩ : ∃ x, im / 32 % 64 = x := ⟨_, rfl⟩
  have b2 : 0 ≤ x2 ∧ x2 < 64 := by rw [← hx2]; exact ⟨Int.emod_nonneg _ (by omega), Int.emod_lt_of_pos _ (by omega)⟩
  have y2 : im % 4294967296 / 32 % 64 = x2 := by rw [← hx2]; omega
  have z2 : 0 ≤ im % 4294967296 / 32 ∧ im % 4294967296 / 32 < 4294967296 := by omega
  obtain ⟨x3, hx3⟩ : ∃ x, im / 4096 % 2 = x := ⟨_, rfl⟩
  have b3 : 0 ≤ x3 ∧ x3 < 2 := by rw [← hx3]; exact ⟨Int.emod_nonneg _ (by omega), Int.emod_lt_of_pos _ (by omega)⟩
  have y3 : im % 4294967296 / 4096 % 2 = x3 := by rw [← hx3]; omega
  have z3 : 0 ≤ im % 4294967296 / 4096 ∧ im % 4294967296 / 4096 < 4294967296 := by omega
  rw [hx0, hx1, hx2, hx3]
  simp only [VB]
  rw [or32 12 3 a b 4096 8 rfl rfl (by omega) (by omega) (by omega) (by omega) (by omega) (by omega) (ext _ (a) 0 0 4096 8 (by omega) (by omega) (by omega) (by omega) (by omega) (by omega))]
  rw [or_piece 15 5 _ (rs1 % 4294967296) 31 32768 32 rfl rfl rfl (by omega) (by omega) (by omega) (by omega) (by omega) (by omega) (by omega) (by omega) (ext _ (a + b * 4096) 0 0 32768 32 (by omega) (by omega) (by omega) (by omega) (by omega) (by omega)), mrs1]
  rw [or_piece 20 5 _ (rs2 % 4294967296) 31 1048576 32 rfl rfl rfl (by omega) (by omega) (by omega) (by omega) (by omega) (by omega) (by omega) (by omega) (ext _ (a + b * 4096 + rs1 * 32768) 0 0 1048576 32 (by omega) (by omega) (by omega) (by omega) (by omega) (by omega)), mrs2]
  rw [or_piece 7 1 _ (im % 4294967296 / 2048) 1 128 2 rfl rfl rfl (by omega) (by omega) (by omega) z0.1 z0.2 (by rw [y0]; omega) (by rw [y0]; omega) (by omega) (ext _ (a) 0 (b * 16 + rs1 * 128 + rs2 * 4096) 128 2 (by omega) (by omega) (by omega) (by omega) (by omega) (by omega)), y0]
  rw [or_piece 8 4 _ (im % 4294967296 / 2) 15 256 16 rfl rfl rfl (by omega) (by omega) (by omega) z1.1 z1.2 (by rw [y1]; omega) (by rw [y1]; omega) (by omega) (ext _ (a + x0 * 128) 0 (b + rs1 * 8 + rs2 * 256) 256 16 (by omega) (by omega) (by omega) (by omega) (by omega) (by omega)), y1]
  rw [or_piece 25 6 _ (im % 4294967296 / 32) 63 33554432 64 rfl rfl rfl (by omega) (by omega) (by omega) z2.1 z2.2 (by rw [y2]; omega) (by rw [y2]; omega) (by omega) (ext _ (a + b * 4096 + rs1 * 32768 + rs2 * 1048576 + x0 * 128 + x1 * 256) 0 0 33554432 64 (by omega) (by omega) (by omega) (by omega) (by omega) (by omega)), y2]
  rw [or_piece 31 1 _ (im % 4294967296 / 4096) 1 2147483648 2 rfl rfl rfl (by omega) (by omega) (by omega) z3.1 z3.2 (by rw [y3]; omega) (by rw [y3]; omega) (by omega) (ext _ (a + b * 4096 + rs1 * 32768 + rs2 * 1048576 + x0 * 128 + x1 * 256 + x2 * 33554432) 0 0 2147483648 2 (by omega) (by omega) (by omega) (by omega) (by omega) (by omega)), y3]
theorem VB_has (a b c rd rs1 rs2 im v : Int) (ha : 0 ≤ a ∧ a < 128) (hb : 0 ≤ b ∧ b < 8) (hc : 0 ≤ c ∧ c < 64) (hrs1 : 0 ≤ rs1 ∧ rs1 ≤ 31) (hrs2 : 0 ≤ rs2 ∧ rs2 ≤ 31) (him : -4096 ≤ im ∧ im ≤ 4094 ∧ im % 2 = 0) (hv : v = a + b * 4096 + rs1 * 32768 + rs2 * 1048576 + im / 2048 % 2 * 128 + im / 2 % 16 * 256 + im / 32 % 64 * 33554432 + im / 4096 % 2 * 2147483648) :
    (0 ≤ v ∧ v < 4294967296) ∧ v % 128 = a ∧ v / 4096 % 8 = b ∧ v / 32768 % 32 = rs1 ∧ v / 1048576 % 32 = rs2 ∧ (if (v / 128 % 2 * 2048 + v / 256 % 16 * 2 + v / 33554432 % 64 * 32 + v / 2147483648 % 2 * 4096) / 4096 = 1 then v / 128 % 2 * 2048 + v / 256 % 16 * 2 + v / 33554432 % 64 * 32 + v / 2147483648 % 2 * 4096 - 8192 else v / 128 % 2 * 2048 + v / 256 % 16 * 2 + v / 33554432 % 64 * 32 + v / 2147483648 % 2 * 4096) = im := by
  obtain ⟨x0, hx0⟩ : ∃ x, im / 2048 % 2 = x := ⟨_, rfl⟩
  obtain ⟨x1, hx1⟩ : ∃ x, im / 2 % 16 = x := ⟨_, rfl⟩
  obtain ⟨x2, hx2⟩ : ∃ x, im / 32 % 64 = x := ⟨_, rfl⟩
  obtain ⟨x3, hx3⟩ : ∃ x, im / 4096 % 2 = x := ⟨_, rfl⟩
  rw [hx0, hx1, hx2, hx3] at hv
  have b0 : 0 ≤ x0 ∧ x0 < 2 := by rw [← hx0]; exact ⟨Int.emod_nonneg _ (by omega), Int.emod_lt_of_pos _ (by omega)⟩
  have b1 : 0 ≤ x1 ∧ x1 < 16 := by rw [← hx1]; exact ⟨Int.emod_nonneg _ (by omega), Int.emod_lt_of_pos _ (by omega)⟩
  have b2 : 0 ≤ x2 ∧ x2 < 64 := by rw [← hx2]; exact ⟨Int.emod_nonneg _ (by omega), Int.emod_lt_of_pos _ (by omega)⟩
  have b3 : 0 ≤ x3 ∧ x3 < 2 := by rw [← hx3]; exact ⟨Int.emod_nonneg _ (by omega), Int.emod_lt_of_pos _ (by omega)⟩
  have keys : True := trivial
  refine ⟨?_, ?_, ?_, ?_, ?_, ?_⟩
  rotate_left 5
  · have e0 : v / 128 % 2 = x0 := ext v (a) x0 (b * 16 + rs1 * 128 + rs2 * 4096 + x1 + x2 * 131072 + x3 * 8388608) 128 2 (by rw [hv]; omega) (by omega) (by omega) (by omega) (by omega) (by omega)
    have e1 : v / 256 % 16 = x1 := ext v (a + x0 * 128) x1 (b + rs1 * 8 + rs2 * 256 + x2 * 8192 + x3 * 524288) 256 16 (by rw [hv]; omega) (by omega) (by omega) (by omega) (by omega) (by omega)
    have e2 : v / 33554432 % 64 = x2 := ext v (a + b * 4096 + rs1 * 32768 + rs2 * 1048576 + x0 * 128 + x1 * 256) x2 (x3) 33554432 64 (by rw [hv]; omega) (by omega) (by omega) (by omega) (by omega) (by omega)
    have e3 : v / 2147483648 % 2 = x3 := ext v (a + b * 4096 + rs1 * 32768 + rs2 * 1048576 + x0 * 128 + x1 * 256 + x2 * 33554432) x3 0 2147483648 2 (by rw [hv]; omega) (by omega) (by omega) (by omega) (by omega) (by omega)
    rw [e0, e1, e2, e3]
    clear hv e0 e1 e2 e3
    split <;> omega
  all_goals clear him hx0 hx1 hx2 hx3
  · omega
  · have := ext v 0 a (b * 32 + rs1 * 256 + rs2 * 8192 + x0 + x1 * 2 + x2 * 262144 + x3 * 16777216) 1 128 (by rw [hv]; omega) (by omega) (by omega) (by omega) (by omega) (by omega)
    omega
  · exact ext v (a + x0 * 128 + x1 * 256) b (rs1 + rs2 * 32 + x2 * 1024 + x3 * 65536) 4096 8 (by rw [hv]; omega) (by omega) (by omega) (by omega) (by omega) (by omega)
  · exact ext v (a + b * 4096 + x0 * 128 + x1 * 256) rs1 (rs2 + x2 * 32 + x3 * 2048) 32768 32 (by rw [hv]; omega) (by omega) (by omega) (by omega) (by omega) (by omega)
  · exact ext v (a + b * 4096 + rs1 * 32768 + x0 * 128 + x1 * 256) rs2 (x2 + x3 * 64) 1048576 32 (by rw [hv]; omega) (by omega) (by omega) (by omega) (by omega) (by omega)
theorem VU_sum (a b c rd rs1 rs2 im : Int) (ha : 0 ≤ a ∧ a < 128) (hb : 0 ≤ b ∧ b < 8) (hc : 0 ≤ c ∧ c < 64) (hrd : 0 ≤ rd ∧ rd ≤ 31) :
    VU a b c rd rs1 rs2 im 2 = a + rd * 128 + im % 1048576 * 4096 := by
  have mrd : rd % 4294967296 % 32 = rd := by omega
  obtain ⟨x0, hx0⟩ : ∃ x, im % 1048576 = x := ⟨_, rfl⟩
  have b0 : 0 ≤ x0 ∧ x0 < 1048576 := by rw [← hx0]; exact ⟨Int.emod_nonneg _ (by omega), Int.emod_lt_of_pos _ (by omega)⟩
  have y0 : im % 4294967296 % 1048576 = x0 := by rw [← hx0]; omega
  have z0 : 0 ≤ im % 4294967296 ∧ im % 4294967296 < 4294967296 := by omega
  rw [hx0]
  simp only [VU]
  rw [or_piece 7 5 _ (rd % 4294967296) 31 128 32 rfl rfl rfl (by omega) (by omega) (by omega) (by omega) (by omega) (by omega) (by omega) (by omega) (ext _ (a) 0 0 128 32 (by omega) (by omega) (by omega) (by omega) (by omega) (by omega)), mrd]
  rw [or_piece 12 20 _ (im % 4294967296) 1048575 4096 1048576 rfl rfl rfl (by omega) (by omega) (by omega) z0.1 z0.2 (by rw [y0]; omega) (by rw [y0]; omega) (by omega) (ext _ (a + rd * 128) 0 0 4096 1048576 (by omega) (by omega) (by omega) (by omega) (by omega) (by omega)), y0]
theorem VU_has (a b c rd rs1 rs2 im v : Int) (ha : 0 ≤ a ∧ a < 128) (hb : 0 ≤ b ∧ b < 8) (hc : 0 ≤ c ∧ c < 64) (hrd : 0 ≤ rd ∧ rd ≤ 31) (him : -524288 ≤ im ∧ im ≤ 524287) (hv : v = a + rd * 128 + im % 1048576 * 4096) :
    (0 ≤ v ∧ v < 4294967296) ∧ v % 128 = a ∧ v / 128 % 32 = rd ∧ (if (v / 4096 % 1048576) / 524288 = 1 then v / 4096 % 1048576 - 1048576 else v / 4096 % 1048576) = im := by
  obtain ⟨x0, hx0⟩ : ∃ x, im % 1048576 = x := ⟨_, rfl⟩
  rw [hx0] at hv
  have b0 : 0 ≤ x0 ∧ x0 < 1048576 := by rw [← hx0]; exact ⟨Int.emod_nonneg _ (by omega), Int.emod_lt_of_pos _ (by omega)⟩
  have keys : True := trivial
  refine ⟨?_, ?_, ?_, ?_⟩
  rotate_left 3
  · have e0 : v / 4096 % 1048576 = x0 := ext v (a + rd * 128) x0 0 4096 1048576 (by rw [hv]; omega) (by omega) (by omega) (by omega) (by omega) (by omega)
    rw [e0]
    clear hv e0
    split <;> omega
  all_goals clear him hx0
  · omega
  · have := ext v 0 a (rd + x0 * 32) 1 128 (by rw [hv]; omega) (by omega) (by omega) (by omega) (by omega) (by omega)
    omega
  · exact ext v (a) rd (x0) 128 32 (by rw [hv]; omega) (by omega) (by omega) (by omega) (by omega) (by omega)
theorem VJ_sum (a b c rd rs1 rs2 im : Int) (ha : 0 ≤ a ∧ a < 128) (hb : 0 ≤ b ∧ b < 8) (hc : 0 ≤ c ∧ c < 64) (hrd : 0 ≤ rd ∧ rd ≤ 31) :
    VJ a b c rd rs1 rs2 im 2 = a + rd * 128 + im / 4096 % 256 * 4096 + im / 2048 % 2 * 1048576 + im / 2 % 1024 * 2097152 + im / 1048576 % 2 * 2147483648 := by
  have mrd : rd % 4294967296 % 32 = rd := by omega
  obtain ⟨x0, hx0⟩ : ∃ x, im / 4096 % 256 = x := ⟨_, rfl⟩
  have b0 : 0 ≤ x0 ∧ x0 < 256 := by rw [← hx0]; exact ⟨Int.emod_nonneg _ (by omega), Int.emod_lt_of_pos _ (by omega)⟩
  have y0 : im % 4294967296 / 4096 % 256 = x0 := by rw [← hx0]; omega
  have z0 : 0 ≤ im % 4294967296 / 4096 ∧ im % 4294967296 / 4096 < 4294967296 := by omega
  obtain ⟨x1, hx1⟩ : ∃ x, im / 2048 % 2 = x := ⟨_, rfl⟩
  have b1 : 0 ≤ x1 ∧ x1 < 2 := by rw [← hx1]; exact ⟨Int.emod_nonneg _ (by omega), Int.emod_lt_of_pos _ (by omega)⟩
  have y1 : im % 4294967296 / 2048 % 2 = x1 := by rw [← hx1]; omega
  have z1 : 0 ≤ im % 4294967296 / 2048 ∧ im % 4294967296 / 2048 < 4294967296 := by omega
  obtain ⟨x2, hx2⟩ : ∃ x, im / 2 % 1024 = x := ⟨_, rfl⟩
  have b2 : 0 ≤ x2 ∧ x2 < 1024 := by rw [← hx2]; exact ⟨Int.emod_nonneg _ (by omega), Int.emod_lt_of_pos _ (by omega)⟩
  have y2 : im % 4294967296 / 2 % 1024 = x2 := by rw [← hx2]; omega
  have z2 : 0 ≤ im % 4294967296 / 2 ∧ im % 4294967296 / 2 < 4294967296 := by omega
  obtain ⟨x3, hx3⟩ : ∃ x, im / 1048576 % 2 = x := ⟨_, rfl⟩
  have b3 : 0 ≤ x3 ∧ x3 < 2 := by rw [← hx3]; exact ⟨Int.emod_nonneg _ (by omega), Int.emod_lt_of_pos _ (by omega)⟩
  have y3 : im % 4294967296 / 1048576 % 2 = x3 := by rw [← hx3]; omega
  have z3 : 0 ≤ im % 4294967296 / 1048576 ∧ im % 4294967296 / 1048576 < 4294967296 := by omega
  rw [hx0, hx1, hx2, hx3]
  simp only [VJ]
  rw [or_piece 7 5 _ (rd % 4294967296) 31 128 32 rfl rfl rfl (by omega) (by omega) (by omega) (by omega) (by omega) (by omega) (by omega) (by omega) (ext _ (a) 0 0 128 32 (by omega) (by omega) (by omega) (by omega) (by omega) (by omega)), mrd]
  rw [or_piece 12 8 _ (im % 4294967296 / 4096) 255 4096 256 rfl rfl rfl (by omega) (by omega) (by omega) z0.1 z0.2 (by rw [y0]; omega) (by rw [y0]; omega) (by omega) (ext _ (a + rd * 128) 0 0 4096 256 (by omega) (by omega) (by omega) (by omega) (by omega) (by omega)), y0]
  rw [or_piece 20 1 _ (im % 4294967296 / 2048) 1 1048576 2 rfl rfl rfl (by omega) (by omega) (by omega) z1.1 z1.2 (by rw [y1]; omega) (by rw [y1]; omega) (by omega) (ext _ (a + rd * 128 + x0 * 4096) 0 0 1048576 2 (by omega) (by omega) (by omega) (by omega) (by omega) (by omega)), y1]
  rw [or_piece 21 10 _ (im % 4294967296 / 2) 1023 2097152 1024 rfl rfl rfl (by omega) (by omega) (by omega) z2.1 z2.2 (by rw [y2]; omega) (by rw [y2]; omega) (by omega) (ext _ (a + rd * 128 + x0 * 4096 + x1 * 1048576) 0 0 2097152 1024 (by omega) (by omega) (by omega) (by omega) (by omega) (by omega)), y2]
  rw [or_piece 31 1 _ (im % 4294967296 / 1048576) 1 2147483648 2 rfl rfl rfl (by omega) (by omega) (by omega) z3.1 z3.2 (by rw [y3]; omega) (by rw [y3]; omega) (by omega) (ext _ (a + rd * 128 + x0 * 4096 + x1 * 1048576 + x2 * 2097152) 0 0 2147483648 2 (by omega) (by omega) (by omega) (by omega) (by omega) (by omega)), y3]
theorem VJ_has (a b c rd rs1 rs2 im v : Int) (ha : 0 ≤ a ∧ a < 128) (hb : 0 ≤ b ∧ b < 8) (hc : 0 ≤ c ∧ c < 64) (hrd : 0 ≤ rd ∧ rd ≤ 31) (him : -1048576 ≤ im ∧ im ≤ 1048574 ∧ im % 2 = 0) (hv : v = a + rd * 128 + im / 4096 % 256 * 4096 + im / 2048 % 2 * 1048576 + im / 2 % 1024 * 2097152 + im / 1048576 % 2 * 2147483648) :
    (0 ≤ v ∧ v < 4294967296) ∧ v % 128 = a ∧ v / 128 % 32 = rd ∧ (if (v / 4096 % 256 * 4096 + v / 1048576 % 2 * 2048 + v / 2097152 % 1024 * 2 + v / 2147483648 % 2 * 1048576) / 1048576 = 1 then v / 4096 % 256 * 4096 + v / 1048576 % 2 * 2048 + v / 2097152 % 1024 * 2 + v / 2147483648 % 2 * 1048576 - 2097152 else v / 4096 % 256 * 4096 + v / 1048576 % 2 * 2048 + v / 2097152 % 1024 * 2 + v / 2147483648 % 2 * 1048576) = im := by
  obtain ⟨x0, hx0⟩ : ∃ x, im / 4096 % 256 = x := ⟨_, rfl⟩
  obtain ⟨x1, hx1⟩ : ∃ x, im / 2048 % 2 = x := ⟨_, rfl⟩
  obtain ⟨x2, hx2⟩ : ∃ x, im / 2 % 1024 = x := ⟨_, rfl⟩
  obtain ⟨x3, hx3⟩ : ∃ x, im / 1048576 % 2 = x := ⟨_, rfl⟩
  rw [hx0, hx1, hx2, hx3] at hv
  have b0 : 0 ≤ x0 ∧ x0 < 256 := by rw [← hx0]; exact ⟨Int.emod_nonneg _ (by omega), Int.emod_lt_of_pos _ (by omega)⟩
  have b1 : 0 ≤ x1 ∧ x1 < 2 := by rw [← hx1]; exact ⟨Int.emod_nonneg _ (by omega), Int.emod_lt_of_pos _ (by omega)⟩
  have b2 : 0 ≤ x2 ∧ x2 < 1024 := by rw [← hx2]; exact ⟨Int.emod_nonneg _ (by omega), Int.emod_lt_of_pos _ (by omega)⟩
  have b3 : 0 ≤ x3 ∧ x3 < 2 := by rw [← hx3]; exact ⟨Int.emod_nonneg _ (by omega), Int.emod_lt_of_pos _ (by omega)⟩
  have keys : True := trivial
  refine ⟨?_, ?_, ?_, ?_⟩
  rotate_left 3
  · have e0 : v / 4096 % 256 = x0 := ext v (a + rd * 128) x0 (x1 + x2 * 2 + x3 * 2048) 4096 256 (by rw [hv]; omega) (by omega) (by omega) (by omega) (by omega) (by omega)
    have e1 : v / 1048576 % 2 = x1 := ext v (a + rd * 128 + x0 * 4096) x1 (x2 + x3 * 1024) 1048576 2 (by rw [hv]; omega) (by omega) (by omega) (by omega) (by omega) (by omega)
    have e2 : v / 2097152 % 1024 = x2 := ext v (a + rd * 128 + x0 * 4096 + x1 * 1048576) x2 (x3) 2097152 1024 (by rw [hv]; omega) (by omega) (by omega) (by omega) (by omega) (by omega)
    have e3 : v / 2147483648 % 2 = x3 := ext v (a + rd * 128 + x0 * 4096 + x1 * 1048576 + x2 * 2097152) x3 0 2147483648 2 (by rw [hv]; omega) (by omega) (by omega) (by omega) (by omega) (by omega)
    rw [e0, e1, e2, e3]
    clear hv e0 e1 e2 e3
    split <;> omega
  all_goals clear him hx0 hx1 hx2 hx3
  · omega
  · have := ext v 0 a (rd + x0 * 32 + x1 * 8192 + x2 * 16384 + x3 * 16777216) 1 128 (by rw [hv]; omega) (by omega) (by omega) (by omega) (by omega) (by omega)
    omega
  · exact ext v (a) rd (x0 + x1 * 256 + x2 * 512 + x3 * 524288) 128 32 (by rw [hv]; omega) (by omega) (by omega) (by omega) (by omega) (by omega)
end rv
end Go.Proofs.YtjjkocklpcdbkaaGreat
namespace Go.Proofs.YtjjkocklpcdbkaaGreat
open Go.RowKit
set_option linter.unusedVariables false
set_option maxRecDepth 100000
namespace rv
theorem nums3 (v lo : Int) (f g h : Fld) (k : Nat) : nums v lo [f, g, h] k = if k = h.k then fin v lo h else if k = g.k then fin v lo g else if k = f.k then fin v lo f else 0 := rfl
theorem nums2 (v lo : Int) (f g : Fld) (k : Nat) : nums v lo [f, g] k = if k = g.k then fin v lo g else if k = f.k then fin v lo f else 0 := rfl
theorem acc_def (v : Int) (ps : List (Int × Int × Int)) : acc v ps = ps.foldl (stp v) 0 := rfl
theorem stp_int (i k u : Nat) (v x I K U : Int) (hI : I = 2 ^ i) (hK : K = 2 ^ k) (hU : U = 2 ^ u) (hv0 : 0 ≤ v) (hv : v < 4294967296) (hx0 : 0 ≤ x) (hx : x < 2097152) (hk : k ≤ 20) (hi : k + i ≤ 21) (h : x / I % K = 0) :
    stp v x ((i : Int), (k : Int), (u : Int)) = x + v / U % K * I := by
  obtain ⟨v, rfl⟩ := Int.eq_ofNat_of_zero_le hv0
  obtain ⟨x, rfl⟩ := Int.eq_ofNat_of_zero_le hx0
  rw [stp_nat v x u k i (by omega) (by omega) hk hi]
  have hm : v / 2 ^ u % 2 ^ k < 2 ^ k := Nat.mod_lt _ (Nat.two_pow_pos k)
  have hc : ((2 : Int) ^ k) = ((2 ^ k : Nat) : Int) := by simp
  have h0 := or_int i k (x : Int) ((v / 2 ^ u % 2 ^ k : Nat) : Int) I K hI hK (by omega) (by omega) (by rw [hK, hc]; exact Int.ofNat_lt.mpr hm) h
  have e1 : (((v / 2 ^ u % 2 ^ k : Nat) : Int) * I) = ((v / 2 ^ u % 2 ^ k * 2 ^ i : Nat) : Int) := by rw [hI]; simp
  rw [e1, Int.toNat_natCast, Int.toNat_natCast] at h0
  rw [h0, hU, hK, hI]
  simp
theorem acc_rd (v : Int) (h0 : 0 ≤ v) (h1 : v < 4294967296) : acc v [(0, 5, 7)] = v / 128 % 32 := by
  obtain ⟨x0, hx0⟩ : ∃ x, v / 128 % 32 = x := ⟨_, rfl⟩
  have b0 : 0 ≤ x0 ∧ x0 < 32 := by rw [← hx0]; exact ⟨Int.emod_nonneg _ (by omega), Int.emod_lt_of_pos _ (by omega)⟩
  rw [hx0]
  rw [acc_def, List.foldl_cons, List.foldl_nil]
  have s0 : stp v (0) (0, 5, 7) = 0 + x0 * 1 := by
    have := stp_int 0 5 7 v (0) 1 32 128 rfl rfl rfl h0 h1 (by omega) (by omega) (by omega) (by omega) (ext _ 0 0 0 1 32 (by omega) (by omega) (by omega) (by omega) (by omega) (by omega))
    rw [hx0] at this
    exact this
  rw [s0]
  omega
theorem acc_rs1 (v : Int) (h0 : 0 ≤ v) (h1 : v < 4294967296) : acc v [(0, 5, 15)] = v / 32768 % 32 := by
  obtain ⟨x0, hx0⟩ : ∃ x, v / 32768 % 32 = x := ⟨_, rfl⟩
  have b0 : 0 ≤ x0 ∧ x0 < 32 := by rw [← hx0]; exact ⟨Int.emod_nonneg _ (by omega), Int.emod_lt_of_pos _ (by omega)⟩
  rw [hx0]
  rw [acc_def, List.foldl_cons, List.foldl_nil]
  have s0 : stp v (0) (0, 5, 15) = 0 + x0 * 1 := by
    have := stp_int 0 5 15 v (0) 1 32 32768 rfl rfl rfl h0 h1 (by omega) (by omega) (by omega) (by omega) (ext _ 0 0 0 1 32 (by omega) (by omega) (by omega) (by omega) (by omega) (by omega))
    rw [hx0] at this
    exact this
  rw [s0]
  omega
theorem acc_rs2 (v : Int) (h0 : 0 ≤ v) (h1 : v < 4294967296) : acc v [(0, 5, 20)] = v / 1048576 % 32 := by
  obtain ⟨x0, hx0⟩ : ∃ x, v / 1048576 % 32 = x := ⟨_, rfl⟩
  have b0 : 0 ≤ x0 ∧ x0 < 32 := by rw [← hx0]; exact ⟨Int.emod_nonneg _ (by omega), Int.emod_lt_of_pos _ (by omega)⟩
  rw [hx0]
  rw [acc_def, List.foldl_cons, List.foldl_nil]
  have s0 : stp v (0) (0, 5, 20) = 0 + x0 * 1 := by
    have := stp_int 0 5 20 v (0) 1 32 1048576 rfl rfl rfl h0 h1 (by omega) (by omega) (by omega) (by omega) (ext _ 0 0 0 1 32 (by omega) (by omega) (by omega) (by omega) (by omega) (by omega))
    rw [hx0] at this
    exact this
  rw [s0]
  omega
theorem fin_rd (lo v : Int) (h0 : 0 ≤ v) (h1 : v < 4294967296) : fin v lo fd = v / 128 % 32 := by
  unfold fin fd
  dsimp only
  rw [if_neg (by omega), acc_rd v h0 h1]
theorem fin_rs1 (lo v : Int) (h0 : 0 ≤ v) (h1 : v < 4294967296) : fin v lo fs1 = v / 32768 % 32 := by
  unfold fin fs1
  dsimp only
  rw [if_neg (by omega), acc_rs1 v h0 h1]
theorem fin_rs2 (lo v : Int) (h0 : 0 ≤ v) (h1 : v < 4294967296) : fin v lo fs2 = v / 1048576 % 32 := by
  unfold fin fs2
  dsimp only
  rw [if_neg (by omega), acc_rs2 v h0 h1]
theorem nums_R (v : Int) (h0 : 0 ≤ v) (h1 : v < 4294967296) : nums v shR.low shR.fs 1 = v / 128 % 32 ∧ nums v shR.low shR.fs 2 = v / 32768 % 32 ∧ nums v shR.low shR.fs 3 = v / 1048576 % 32 ∧ nums v shR.low shR.fs 4 = 0 := by
  refine ⟨?_, ?_, ?_, ?_⟩
  · show nums v (0) [fd, fs1, fs2] 1 = _
    rw [nums3, if_neg (by decide), if_neg (by decide), if_pos (by decide)]
    exact fin_rd _ v h0 h1
  · show nums v (0) [fd, fs1, fs2] 2 = _
    rw [nums3, if_neg (by decide), if_pos (by decide)]
    exact fin_rs1 _ v h0 h1
  · show nums v (0) [fd, fs1, fs2] 3 = _
    rw [nums3, if_pos (by decide)]
    exact fin_rs2 _ v h0 h1
  · show nums v (0) [fd, fs1, fs2] 4 = _
    rw [nums3, if_neg (by decide), if_neg (by decide), if_neg (by decide)]
theorem acc_I (v : Int) (h0 : 0 ≤ v) (h1 : v < 4294967296) : acc v [(0, 12, 20)] = v / 1048576 % 4096 := by
  obtain ⟨x0, hx0⟩ : ∃ x, v / 1048576 % 4096 = x := ⟨_, rfl⟩
  have b0 : 0 ≤ x0 ∧ x0 < 4096 := by rw [← hx0]; exact ⟨Int.emod_nonneg _ (by omega), Int.emod_lt_of_pos _ (by omega)⟩
  rw [hx0]
  rw [acc_def, List.foldl_cons, List.foldl_nil]
  have s0 : stp v (0) (0, 12, 20) = 0 + x0 * 1 := by
    have := stp_int 0 12 20 v (0) 1 4096 1048576 rfl rfl rfl h0 h1 (by omega) (by omega) (by omega) (by omega) (ext _ 0 0 0 1 4096 (by omega) (by omega) (by omega) (by omega) (by omega) (by omega))
    rw [hx0] at this
    exact this
  rw [s0]
  omega
theorem fin_I (v : Int) (h0 : 0 ≤ v) (h1 : v < 4294967296) : fin v (-2048) ⟨4, [(0, 12, 20)]⟩ = (if (v / 1048576 % 4096) / 2048 = 1 then v / 1048576 % 4096 - 4096 else v / 1048576 % 4096) := by
  have ht : top [(0, 12, 20)] = 12 := by decide
  unfold fin
  dsimp only
  rw [ht, acc_I v h0 h1]
  obtain ⟨x0, hx0⟩ : ∃ x, v / 1048576 % 4096 = x := ⟨_, rfl⟩
  have b0 : 0 ≤ x0 ∧ x0 < 4096 := by rw [← hx0]; exact ⟨Int.emod_nonneg _ (by omega), Int.emod_lt_of_pos _ (by omega)⟩
  rw [hx0]
  clear hx0 h0 h1 ht
  have e1 : (2 : Int) ^ ((12 : Int) - 1).toNat = 2048 := by decide
  have e2 : wrap64 ((2 : Int) ^ ((12 : Int)).toNat) = 4096 := IntWalk.wrap64_in _ (by decide)
  rw [e1, e2]
  have e3 : wrap64 (x0 - 4096) = x0 - 4096 := IntWalk.wrap64_in _ (by omega)
  rw [e3]
  by_cases hs : (x0) / 2048 = 1
  · rw [if_pos ⟨rfl, by decide, hs⟩, if_pos hs]
  · rw [if_neg (fun h => hs h.2.2), if_neg hs]
theorem nums_I (v : Int) (h0 : 0 ≤ v) (h1 : v < 4294967296) : nums v shI.low shI.fs 1 = v / 128 % 32 ∧ nums v shI.low shI.fs 2 = v / 32768 % 32 ∧ nums v shI.low shI.fs 3 = 0 ∧ nums v shI.low shI.fs 4 = (if (v / 1048576 % 4096) / 2048 = 1 then v / 1048576 % 4096 - 4096 else v / 1048576 % 4096) := by
  refine ⟨?_, ?_, ?_, ?_⟩
  · show nums v (-2048) [fd, fs1, ⟨4, [(0, 12, 20)]⟩] 1 = _
    rw [nums3, if_neg (by decide), if_neg (by decide), if_pos (by decide)]
    exact fin_rd _ v h0 h1
  · show nums v (-2048) [fd, fs1, ⟨4, [(0, 12, 20)]⟩] 2 = _
    rw [nums3, if_neg (by decide), if_pos (by decide)]
    exact fin_rs1 _ v h0 h1
  · show nums v (-2048) [fd, fs1, ⟨4, [(0, 12, 20)]⟩] 3 = _
    rw [nums3, if_neg (by decide), if_neg (by decide), if_neg (by decide)]
  · show nums v (-2048) [fd, fs1, ⟨4, [(0, 12, 20)]⟩] 4 = _
    rw [nums3, if_pos (by decide)]
    exact fin_I v h0 h1
theorem acc_X (v : Int) (h0 : 0 ≤ v) (h1 : v < 4294967296) : acc v [(0, 6, 20)] = v / 1048576 % 64 := by
  obtain ⟨x0, hx0⟩ : ∃ x, v / 1048576 % 64 = x := ⟨_, rfl⟩
  have b0 : 0 ≤ x0 ∧ x0 < 64 := by rw [← hx0]; exact ⟨Int.emod_nonneg _ (by omega), Int.emod_lt_of_pos _ (by omega)⟩
  rw [hx0]
  rw [acc_def, List.foldl_cons, List.foldl_nil]
  have s0 : stp v (0) (0, 6, 20) = 0 + x0 * 1 := by
    have := stp_int 0 6 20 v (0) 1 64 1048576 rfl rfl rfl h0 h1 (by omega) (by omega) (by omega) (by omega) (ext _ 0 0 0 1 64 (by omega) (by omega) (by omega) (by omega) (by omega) (by omega))
    rw [hx0] at this
    exact this
  rw [s0]
  omega
theorem fin_X (v : Int) (h0 : 0 ≤ v) (h1 : v < 4294967296) : fin v 0 ⟨4, [(0, 6, 20)]⟩ = v / 1048576 % 64 := by
  unfold fin
  dsimp only
  rw [if_neg (by omega), acc_X v h0 h1]
theorem nums_X (v : Int) (h0 : 0 ≤ v) (h1 : v < 4294967296) : nums v shX.low shX.fs 1 = v / 128 % 32 ∧ nums v shX.low shX.fs 2 = v / 32768 % 32 ∧ nums v shX.low shX.fs 3 = 0 ∧ nums v shX.low shX.fs 4 = v / 1048576 % 64 := by
  refine ⟨?_, ?_, ?_, ?_⟩
  · show nums v (0) [fd, fs1, ⟨4, [(0, 6, 20)]⟩] 1 = _
    rw [nums3, if_neg (by decide), if_neg (by decide), if_pos (by decide)]
    exact fin_rd _ v h0 h1
  · show nums v (0) [fd, fs1, ⟨4, [(0, 6, 20)]⟩] 2 = _
    rw [nums3, if_neg (by decide), if_pos (by decide)]
    exact fin_rs1 _ v h0 h1
  · show nums v (0) [fd, fs1, ⟨4, [(0, 6, 20)]⟩] 3 = _
    rw [nums3, if_neg (by decide), if_neg (by decide), if_neg (by decide)]
  · show nums v (0) [fd, fs1, ⟨4, [(0, 6, 20)]⟩] 4 = _
    rw [nums3, if_pos (by decide)]
    exact fin_X v h0 h1
theorem acc_Y (v : Int) (h0 : 0 ≤ v) (h1 : v < 4294967296) : acc v [(0, 5, 20)] = v / 1048576 % 32 := by
  obtain ⟨x0, hx0⟩ : ∃ x, v / 1048576 % 32 = x := ⟨_, rfl⟩
  have b0 : 0 ≤ x0 ∧ x0 < 32 := by rw [← hx0]; exact ⟨Int.emod_nonneg _ (by omega), Int.emod_lt_of_pos _ (by omega)⟩
  rw [hx0]
  rw [acc_def, List.foldl_cons, List.foldl_nil]
  have s0 : stp v (0) (0, 5, 20) = 0 + x0 * 1 := by
    have := stp_int 0 5 20 v (0) 1 32 1048576 rfl rfl rfl h0 h1 (by omega) (by omega) (by omega) (by omega) (ext _ 0 0 0 1 32 (by omega) (by omega) (by omega) (by omega) (by omega) (by omega))
    rw [hx0] at this
    exact this
  rw [s0]
  omega
theorem fin_Y (v : Int) (h0 : 0 ≤ v) (h1 : v < 4294967296) : fin v 0 ⟨4, [(0, 5, 20)]⟩ = v / 1048576 % 32 := by
  unfold fin
  dsimp only
  rw [if_neg (by omega), acc_Y v h0 h1]
theorem nums_Y (v : Int) (h0 : 0 ≤ v) (h1 : v < 4294967296) : nums v shY.low shY.fs 1 = v / 128 % 32 ∧ nums v shY.low shY.fs 2 = v / 32768 % 32 ∧ nums v shY.low shY.fs 3 = 0 ∧ nums v shY.low shY.fs 4 = v / 1048576 % 32 := by
  refine ⟨?_, ?_, ?_, ?_⟩
  · show nums v (0) [fd, fs1, ⟨4, [(0, 5, 20)]⟩] 1 = _
    rw [nums3, if_neg (by decide), if_neg (by decide), if_pos (by decide)]
    exact fin_rd _ v h0 h1
  · show nums v (0) [fd, fs1, ⟨4, [(0, 5, 20)]⟩] 2 = _
    rw [nums3, if_neg (by decide), if_pos (by decide)]
    exact fin_rs1 _ v h0 h1
  · show nums v (0) [fd, fs1, ⟨4, [(0, 5, 20)]⟩] 3 = _
    rw [nums3, if_neg (by decide), if_neg (by decide), if_neg (by decide)]
  · show nums v (0) [fd, fs1, ⟨4, [(0, 5, 20)]⟩] 4 = _
    rw [nums3, if_pos (by decide)]
    exact fin_Y v h0 h1
theorem acc_S (v : Int) (h0 : 0 ≤ v) (h1 : v < 4294967296) : acc v [(0, 5, 7), (5, 7, 25)] = v / 128 % 32 + v / 33554432 % 128 * 32 := by
  obtain ⟨x0, hx0⟩ : ∃ x, v / 128 % 32 = x := ⟨_, rfl⟩
  have b0 : 0 ≤ x0 ∧ x0 < 32 := by rw [← hx0]; exact ⟨Int.emod_nonneg _ (by omega), Int.emod_lt_of_pos _ (by omega)⟩
  obtain ⟨x1, hx1⟩ : ∃ x, v / 33554432 % 128 = x := ⟨_, rfl⟩
  have b1 : 0 ≤ x1 ∧ x1 < 128 := by rw [← hx1]; exact ⟨Int.emod_nonneg _ (by omega), Int.emod_lt_of_pos _ (by omega)⟩
  rw [hx0, hx1]
  rw [acc_def, List.foldl_cons, List.foldl_cons, List.foldl_nil]
  have s0 : stp v (0) (0, 5, 7) = 0 + x0 * 1 := by
    have := stp_int 0 5 7 v (0) 1 32 128 rfl rfl rfl h0 h1 (by omega) (by omega) (by omega) (by omega) (ext _ 0 0 0 1 32 (by omega) (by omega) (by omega) (by omega) (by omega) (by omega))
    rw [hx0] at this
    exact this
  have s1 : stp v (0 + x0 * 1) (5, 7, 25) = 0 + x0 * 1 + x1 * 32 := by
    have := stp_int 5 7 25 v (0 + x0 * 1) 32 128 33554432 rfl rfl rfl h0 h1 (by omega) (by omega) (by omega) (by omega) (ext _ (x0) 0 0 32 128 (by omega) (by omega) (by omega) (by omega) (by omega) (by omega))
    rw [hx1] at this
    exact this
  rw [s0, s1]
  omega
theorem fin_S (v : Int) (h0 : 0 ≤ v) (h1 : v < 4294967296) : fin v (-2048) ⟨4, [(0, 5, 7), (5, 7, 25)]⟩ = (if (v / 128 % 32 + v / 33554432 % 128 * 32) / 2048 = 1 then v / 128 % 32 + v / 33554432 % 128 * 32 - 4096 else v / 128 % 32 + v / 33554432 % 128 * 32) := by
  have ht : top [(0, 5, 7), (5, 7, 25)] = 12 := by decide
  unfold fin
  dsimp only
  rw [ht, acc_S v h0 h1]
  obtain ⟨x0, hx0⟩ : ∃ x, v / 128 % 32 = x := ⟨_, rfl⟩
  have b0 : 0 ≤ x0 ∧ x0 < 32 := by rw [← hx0]; exact ⟨Int.emod_nonneg _ (by omega), Int.emod_lt_of_pos _ (by omega)⟩
  obtain ⟨x1, hx1⟩ : ∃ x, v / 33554432 % 128 = x := ⟨_, rfl⟩
  have b1 : 0 ≤ x1 ∧ x1 < 128 := by rw [← hx1]; exact ⟨Int.emod_nonneg _ (by omega), Int.emod_lt_of_pos _ (by omega)⟩
  rw [hx0, hx1]
  clear hx0 hx1 h0 h1 ht
  have e1 : (2 : Int) ^ ((12 : Int) - 1).toNat = 2048 := by decide
  have e2 : wrap64 ((2 : Int) ^ ((12 : Int)).toNat) = 4096 := IntWalk.wrap64_in _ (by decide)
  rw [e1, e2]
  have e3 : wrap64 (x0 + x1 * 32 - 4096) = x0 + x1 * 32 - 4096 := IntWalk.wrap64_in _ (by omega)
  rw [e3]
  by_cases hs : (x0 + x1 * 32) / 2048 = 1
  · rw [if_pos ⟨rfl, by decide, hs⟩, if_pos hs]
  · rw [if_neg (fun h => hs h.2.2), if_neg hs]
theorem nums_S (v : Int) (h0 : 0 ≤ v) (h1 : v < 4294967296) : nums v shS.low shS.fs 1 = 0 ∧ nums v shS.low shS.fs 2 = v / 32768 % 32 ∧ nums v shS.low shS.fs 3 = v / 1048576 % 32 ∧ nums v shS.low shS.fs 4 = (if (v / 128 % 32 + v / 33554432 % 128 * 32) / 2048 = 1 then v / 128 % 32 + v / 33554432 % 128 * 32 - 4096 else v / 128 % 32 + v / 33554432 % 128 * 32) := by
  refine ⟨?_, ?_, ?_, ?_⟩
  · show nums v (-2048) [fs1, fs2, ⟨4, [(0, 5, 7), (5, 7, 25)]⟩] 1 = _
    rw [nums3, if_neg (by decide), if_neg (by decide), if_neg (by decide)]
  · show nums v (-2048) [fs1, fs2, ⟨4, [(0, 5, 7), (5, 7, 25)]⟩] 2 = _
    rw [nums3, if_neg (by decide), if_neg (by decide), if_pos (by decide)]
    exact fin_rs1 _ v h0 h1
  · show nums v (-2048) [fs1, fs2, ⟨4, [(0, 5, 7), (5, 7, 25)]⟩] 3 = _
    rw [nums3, if_neg (by decide), if_pos (by decide)]
    exact fin_rs2 _ v h0 h1
  · show nums v (-2048) [fs1, fs2, ⟨4, [(0, 5, 7), (5, 7, 25)]⟩] 4 = _
    rw [nums3, if_pos (by decide)]
    exact fin_S v h0 h1
theorem acc_B (v : Int) (h0 : 0 ≤ v) (h1 : v < 4294967296) : acc v [(11, 1, 7), (1, 4, 8), (5, 6, 25), (12, 1, 31)] = v / 128 % 2 * 2048 + v / 256 % 16 * 2 + v / 33554432 % 64 * 32 + v / 2147483648 % 2 * 4096 := by
  obtain ⟨x0, hx0⟩ : ∃ x, v / 128 % 2 = x := ⟨_, rfl⟩
  have b0 : 0 ≤ x0 ∧ x0 < 2 := by rw [← hx0]; exact ⟨Int.emod_nonneg _ (by omega), Int.emod_lt_of_pos _ (by omega)⟩
  obtain ⟨x1, hx1⟩ : ∃ x, v / 256 % 16 = x := ⟨_, rfl⟩
  have b1 : 0 ≤ x1 ∧ x1 < 16 := by rw [← hx1]; exact ⟨Int.emod_nonneg _ (by omega), Int.emod_lt_of_pos _ (by omega)⟩
  obtain ⟨x2, hx2⟩ : ∃ x, v / 33554432 % 64 = x := ⟨_, rfl⟩
  have b2 : 0 ≤ x2 ∧ x2 < 64 := by rw [← hx2]; exact ⟨Int.emod_nonneg _ (by omega), Int.emod_lt_of_pos _ (by omega)⟩
  obtain ⟨x3, hx3⟩ : ∃ x, v / 2147483648 % 2 = x := ⟨_, rfl⟩
  have b3 : 0 ≤ x3 ∧ x3 < 2 := by rw [← hx3]; exact ⟨Int.emod_nonneg _ (by omega), Int.emod_lt_of_pos _ (by omega)⟩
  rw [hx0, hx1, hx2, hx3]
  rw [acc_def, List.foldl_cons, List.foldl_cons, List.foldl_cons, List.foldl_cons, List.foldl_nil]
  have s0 : stp v (0) (11, 1, 7) = 0 + x0 * 2048 := by
    have := stp_int 11 1 7 v (0) 2048 2 128 rfl rfl rfl h0 h1 (by omega) (by omega) (by omega) (by omega) (ext _ 0 0 0 2048 2 (by omega) (by omega) (by omega) (by omega) (by omega) (by omega))
    rw [hx0] at this
    exact this
  have s1 : stp v (0 + x0 * 2048) (1, 4, 8) = 0 + x0 * 2048 + x1 * 2 := by
    have := stp_int 1 4 8 v (0 + x0 * 2048) 2 16 256 rfl rfl rfl h0 h1 (by omega) (by omega) (by omega) (by omega) (ext _ 0 0 (x0 * 64) 2 16 (by omega) (by omega) (by omega) (by omega) (by omega) (by omega))
    rw [hx1] at this
    exact this
  have s2 : stp v (0 + x0 * 2048 + x1 * 2) (5, 6, 25) = 0 + x0 * 2048 + x1 * 2 + x2 * 32 := by
    have := stp_int 5 6 25 v (0 + x0 * 2048 + x1 * 2) 32 64 33554432 rfl rfl rfl h0 h1 (by omega) (by omega) (by omega) (by omega) (ext _ (x1 * 2) 0 (x0) 32 64 (by omega) (by omega) (by omega) (by omega) (by omega) (by omega))
    rw [hx2] at this
    exact this
  have s3 : stp v (0 + x0 * 2048 + x1 * 2 + x2 * 32) (12, 1, 31) = 0 + x0 * 2048 + x1 * 2 + x2 * 32 + x3 * 4096 := by
    have := stp_int 12 1 31 v (0 + x0 * 2048 + x1 * 2 + x2 * 32) 4096 2 2147483648 rfl rfl rfl h0 h1 (by omega) (by omega) (by omega) (by omega) (ext _ (x0 * 2048 + x1 * 2 + x2 * 32) 0 0 4096 2 (by omega) (by omega) (by omega) (by omega) (by omega) (by omega))
    rw [hx3] at this
    exact this
  rw [s0, s1, s2, s3]
  omega
theorem fin_B (v : Int) (h0 : 0 ≤ v) (h1 : v < 4294967296) : fin v (-4096) ⟨4, [(11, 1, 7), (1, 4, 8), (5, 6, 25), (12, 1, 31)]⟩ = (if (v / 128 % 2 * 2048 + v / 256 % 16 * 2 + v / 33554432 % 64 * 32 + v / 2147483648 % 2 * 4096) / 4096 = 1 then v / 128 % 2 * 2048 + v / 256 % 16 * 2 + v / 33554432 % 64 * 32 + v / 2147483648 % 2 * 4096 - 8192 else v / 128 % 2 * 2048 + v / 256 % 16 * 2 + v / 33554432 % 64 * 32 + v / 2147483648 % 2 * 4096) := by
  have ht : top [(11, 1, 7), (1, 4, 8), (5, 6, 25), (12, 1, 31)] = 13 := by decide
  unfold fin
  dsimp only
  rw [ht, acc_B v h0 h1]
  obtain ⟨x0, hx0⟩ : ∃ x, v / 128 % 2 = x := ⟨_, rfl⟩
  have b0 : 0 ≤ x0 ∧ x0 < 2 := by rw [← hx0]; exact ⟨Int.emod_nonneg _ (by omega), Int.emod_lt_of_pos _ (by omega)⟩
  obtain ⟨x1, hx1⟩ : ∃ x, v / 256 % 16 = x := ⟨_, rfl⟩
  have b1 : 0 ≤ x1 ∧ x1 < 16 := by rw [← hx1]; exact ⟨Int.emod_nonneg _ (by omega), Int.emod_lt_of_pos _ (by omega)⟩
  obtain ⟨x2, hx2⟩ : ∃ x, v / 33554432 % 64 = x := ⟨_, rfl⟩
  have b2 : 0 ≤ x2 ∧ x2 < 64 := by rw [← hx2]; exact ⟨Int.emod_nonneg _ (by omega), Int.emod_lt_of_pos _ (by omega)⟩
  obtain ⟨x3, hx3⟩ : ∃ x, v / 2147483648 % 2 = x := ⟨_, rfl⟩
  have b3 : 0 ≤ x3 ∧ x3 < 2 := by rw [← hx3]; exact ⟨Int.emod_nonneg _ (by omega), Int.emod_lt_of_pos _ (by omega)⟩
  rw [hx0, hx1, hx2, hx3]
  clear hx0 hx1 hx2 hx3 h0 h1 ht
  have e1 : (2 : Int) ^ ((13 : Int) - 1).toNat = 4096 := by decide
  have e2 : wrap64 ((2 : Int) ^ ((13 : Int)).toNat) = 8192 := IntWalk.wrap64_in _ (by decide)
  rw [e1, e2]
  have e3 : wrap64 (x0 * 2048 + x1 * 2 + x2 * 32 + x3 * 4096 - 8192) = x0 * 2048 + x1 * 2 + x2 * 32 + x3 * 4096 - 8192 := IntWalk.wrap64_in _ (by omega)
  rw [e3]
  by_cases hs : (x0 * 2048 + x1 * 2 + x2 * 32 + x3 * 4096) / 4096 = 1
  · rw [if_pos ⟨rfl, by decide, hs⟩, if_pos hs]
  · rw [if_neg (fun h => hs h.2.2), if_neg hs]
theorem nums_B (v : Int) (h0 : 0 ≤ v) (h1 : v < 4294967296) : nums v shB.low shB.fs 1 = 0 ∧ nums v shB.low shB.fs 2 = v / 32768 % 32 ∧ nums v shB.low shB.fs 3 = v / 1048576 % 32 ∧ nums v shB.low shB.fs 4 = (if (v / 128 % 2 * 2048 + v / 256 % 16 * 2 + v / 33554432 % 64 * 32 + v / 2147483648 % 2 * 4096) / 4096 = 1 then v / 128 % 2 * 2048 + v / 256 % 16 * 2 + v / 33554432 % 64 * 32 + v / 2147483648 % 2 * 4096 - 8192 else v / 128 % 2 * 2048 + v / 256 % 16 * 2 + v / 33554432 % 64 * 32 + v / 2147483648 % 2 * 4096) := by
  refine ⟨?_, ?_, ?_, ?_⟩
  · show nums v (-4096) [fs1, fs2, ⟨4, [(11, 1, 7), (1, 4, 8), (5, 6, 25), (12, 1, 31)]⟩] 1 = _
    rw [nums3, if_neg (by decide), if_neg (by decide), if_neg (by decide)]
  · show nums v (-4096) [fs1, fs2, ⟨4, [(11, 1, 7), (1, 4, 8), (5, 6, 25), (12, 1, 31)]⟩] 2 = _
    rw [nums3, if_neg (by decide), if_neg (by decide), if_pos (by decide)]
    exact fin_rs1 _ v h0 h1
  · show nums v (-4096) [fs1, fs2, ⟨4, [(11, 1, 7), (1, 4, 8), (5, 6, 25), (12, 1, 31)]⟩] 3 = _
    rw [nums3, if_neg (by decide), if_pos (by decide)]
    exact fin_rs2 _ v h0 h1
  · show nums v (-4096) [fs1, fs2, ⟨4, [(11, 1, 7), (1, 4, 8), (5, 6, 25), (12, 1, 31)]⟩] 4 = _
    rw [nums3, if_pos (by decide)]
    exact fin_B v h0 h1
theorem acc_U (v : Int) (h0 : 0 ≤ v) (h1 : v < 4294967296) : acc v [(0, 20, 12)] = v / 4096 % 1048576 := by
  obtain ⟨x0, hx0⟩ : ∃ x, v / 4096 % 1048576 = x := ⟨_, rfl⟩
  have b0 : 0 ≤ x0 ∧ x0 < 1048576 := by rw [← hx0]; exact ⟨Int.emod_nonneg _ (by omega), Int.emod_lt_of_pos _ (by omega)⟩
  rw [hx0]
  rw [acc_def, List.foldl_cons, List.foldl_nil]
  have s0 : stp v (0) (0, 20, 12) = 0 + x0 * 1 := by
    have := stp_int 0 20 12 v (0) 1 1048576 4096 rfl rfl rfl h0 h1 (by omega) (by omega) (by omega) (by omega) (ext _ 0 0 0 1 1048576 (by omega) (by omega) (by omega) (by omega) (by omega) (by omega))
    rw [hx0] at this
    exact this
  rw [s0]
  omega
theorem fin_U (v : Int) (h0 : 0 ≤ v) (h1 : v < 4294967296) : fin v (-524288) ⟨4, [(0, 20, 12)]⟩ = (if (v / 4096 % 1048576) / 524288 = 1 then v / 4096 % 1048576 - 1048576 else v / 4096 % 1048576) := by
  have ht : top [(0, 20, 12)] = 20 := by decide
  unfold fin
  dsimp only
  rw [ht, acc_U v h0 h1]
  obtain ⟨x0, hx0⟩ : ∃ x, v / 4096 % 1048576 = x := ⟨_, rfl⟩
  have b0 : 0 ≤ x0 ∧ x0 < 1048576 := by rw [← hx0]; exact ⟨Int.emod_nonneg _ (by omega), Int.emod_lt_of_pos _ (by omega)⟩
  rw [hx0]
  clear hx0 h0 h1 ht
  have e1 : (2 : Int) ^ ((20 : Int) - 1).toNat = 524288 := by decide
  have e2 : wrap64 ((2 : Int) ^ ((20 : Int)).toNat) = 1048576 := IntWalk.wrap64_in _ (by decide)
  rw [e1, e2]
  have e3 : wrap64 (x0 - 1048576) = x0 - 1048576 := IntWalk.wrap64_in _ (by omega)
  rw [e3]
  by_cases hs : (x0) / 524288 = 1
  · rw [if_pos ⟨rfl, by decide, hs⟩, if_pos hs]
  · rw [if_neg (fun h => hs h.2.2), if_neg hs]
theorem nums_U (v : Int) (h0 : 0 ≤ v) (h1 : v < 4294967296) : nums v shU.low shU.fs 1 = v / 128 % 32 ∧ nums v shU.low shU.fs 2 = 0 ∧ nums v shU.low shU.fs 3 = 0 ∧ nums v shU.low shU.fs 4 = (if (v / 4096 % 1048576) / 524288 = 1 then v / 4096 % 1048576 - 1048576 else v / 4096 % 1048576) := by
  refine ⟨?_, ?_, ?_, ?_⟩
  · show nums v (-524288) [fd, ⟨4, [(0, 20, 12)]⟩] 1 = _
    rw [nums2, if_neg (by decide), if_pos (by decide)]
    exact fin_rd _ v h0 h1
  · show nums v (-524288) [fd, ⟨4, [(0, 20, 12)]⟩] 2 = _
    rw [nums2, if_neg (by decide), if_neg (by decide)]
  · show nums v (-524288) [fd, ⟨4, [(0, 20, 12)]⟩] 3 = _
    rw [nums2, if_neg (by decide), if_neg (by decide)]
  · show nums v (-524288) [fd, ⟨4, [(0, 20, 12)]⟩] 4 = _
    rw [nums2, if_pos (by decide)]
    exact fin_U v h0 h1
theorem acc_J (v : Int) (h0 : 0 ≤ v) (h1 : v < 4294967296) : acc v [(12, 8, 12), (11, 1, 20), (1, 10, 21), (20, 1, 31)] = v / 4096 % 256 * 4096 + v / 1048576 % 2 * 2048 + v / 2097152 % 1024 * 2 + v / 2147483648 % 2 * 1048576 := by
  obtain ⟨x0, hx0⟩ : ∃ x, v / 4096 % 256 = x := ⟨_, rfl⟩
  have b0 : 0 ≤ x0 ∧ x0 < 256 := by rw [← hx0]; exact ⟨Int.emod_nonneg _ (by omega), Int.emod_lt_of_pos _ (by omega)⟩
  obtain ⟨x1, hx1⟩ : ∃ x, v / 1048576 % 2 = x := ⟨_, rfl⟩
  have b1 : 0 ≤ x1 ∧ x1 < 2 := by rw [← hx1]; exact ⟨Int.emod_nonneg _ (by omega), Int.emod_lt_of_pos _ (by omega)⟩
  obtain ⟨x2, hx2⟩ : ∃ x, v / 2097152 % 1024 = x := ⟨_, rfl⟩
  have b2 : 0 ≤ x2 ∧ x2 < 1024 := by rw [← hx2]; exact ⟨Int.emod_nonneg _ (by omega), Int.emod_lt_of_pos _ (by omega)⟩
  obtain ⟨x3, hx3⟩ : ∃ x, v / 2147483648 % 2 = x := ⟨_, rfl⟩
  have b3 : 0 ≤ x3 ∧ x3 < 2 := by rw [← hx3]; exact ⟨Int.emod_nonneg _ (by omega), Int.emod_lt_of_pos _ (by omega)⟩
  rw [hx0, hx1, hx2, hx3]
  rw [acc_def, List.foldl_cons, List.foldl_cons, List.foldl_cons, List.foldl_cons, List.foldl_nil]
  have s0 : stp v (0) (12, 8, 12) = 0 + x0 * 4096 := by
    have := stp_int 12 8 12 v (0) 4096 256 4096 rfl rfl rfl h0 h1 (by omega) (by omega) (by omega) (by omega) (ext _ 0 0 0 4096 256 (by omega) (by omega) (by omega) (by omega) (by omega) (by omega))
    rw [hx0] at this
    exact this
  have s1 : stp v (0 + x0 * 4096) (11, 1, 20) = 0 + x0 * 4096 + x1 * 2048 := by
    have := stp_int 11 1 20 v (0 + x0 * 4096) 2048 2 1048576 rfl rfl rfl h0 h1 (by omega) (by omega) (by omega) (by omega) (ext _ 0 0 (x0) 2048 2 (by omega) (by omega) (by omega) (by omega) (by omega) (by omega))
    rw [hx1] at this
    exact this
  have s2 : stp v (0 + x0 * 4096 + x1 * 2048) (1, 10, 21) = 0 + x0 * 4096 + x1 * 2048 + x2 * 2 := by
    have := stp_int 1 10 21 v (0 + x0 * 4096 + x1 * 2048) 2 1024 2097152 rfl rfl rfl h0 h1 (by omega) (by omega) (by omega) (by omega) (ext _ 0 0 (x0 * 2 + x1) 2 1024 (by omega) (by omega) (by omega) (by omega) (by omega) (by omega))
    rw [hx2] at this
    exact this
  have s3 : stp v (0 + x0 * 4096 + x1 * 2048 + x2 * 2) (20, 1, 31) = 0 + x0 * 4096 + x1 * 2048 + x2 * 2 + x3 * 1048576 := by
    have := stp_int 20 1 31 v (0 + x0 * 4096 + x1 * 2048 + x2 * 2) 1048576 2 2147483648 rfl rfl rfl h0 h1 (by omega) (by omega) (by omega) (by omega) (ext _ (x0 * 4096 + x1 * 2048 + x2 * 2) 0 0 1048576 2 (by omega) (by omega) (by omega) (by omega) (by omega) (by omega))
    rw [hx3] at this
    exact this
  rw [s0, s1, s2, s3]
  omega
theorem fin_J (v : Int) (h0 : 0 ≤ v) (h1 : v < 4294967296) : fin v (-1048576) ⟨4, [(12, 8, 12), (11, 1, 20), (1, 10, 21), (20, 1, 31)]⟩ = (if (v / 4096 % 256 * 4096 + v / 1048576 % 2 * 2048 + v / 2097152 % 1024 * 2 + v / 2147483648 % 2 * 1048576) / 1048576 = 1 then v / 4096 % 256 * 4096 + v / 1048576 % 2 * 2048 + v / 2097152 % 1024 * 2 + v / 2147483648 % 2 * 1048576 - 2097152 else v / 4096 % 256 * 4096 + v / 1048576 % 2 * 2048 + v / 2097152 % 1024 * 2 + v / 2147483648 % 2 * 1048576) := by
  have ht : top [(12, 8, 12), (11, 1, 20), (1, 10, 21), (20, 1, 31)] = 21 := by decide
  unfold fin
  dsimp only
  rw [ht, acc_J v h0 h1]
  obtain ⟨x0, hx0⟩ : ∃ x, v / 4096 % 256 = x := ⟨_, rfl⟩
  have b0 : 0 ≤ x0 ∧ x0 < 256 := by rw [← hx0]; exact ⟨Int.emod_nonneg _ (by omega), Int.emod_lt_of_pos _ (by omega)⟩
  obtain ⟨x1, hx1⟩ : ∃ x, v / 1048576 % 2 = x := ⟨_, rfl⟩
  have b1 : 0 ≤ x1 ∧ x1 < 2 := by rw [← hx1]; exact ⟨Int.emod_nonneg _ (by omega), Int.emod_lt_of_pos _ (by omega)⟩
  obtain ⟨x2, hx2⟩ : ∃ x, v / 2097152 % 1024 = x := ⟨_, rfl⟩
  have b2 : 0 ≤ x2 ∧ x2 < 1024 := by rw [← hx2]; exact ⟨Int.emod_nonneg _ (by omega), Int.emod_lt_of_pos _ (by omega)⟩
  obtain ⟨x3, hx3⟩ : ∃ x, v / 2147483648 % 2 = x := ⟨_, rfl⟩
  have b3 : 0 ≤ x3 ∧ x3 < 2 := by rw [← hx3]; exact ⟨Int.emod_nonneg _ (by omega), Int.emod_lt_of_pos _ (by omega)⟩
  rw [hx0, hx1, hx2, hx3]
  clear hx0 hx1 hx2 hx3 h0 h1 ht
  have e1 : (2 : Int) ^ ((21 : Int) - 1).toNat = 1048576 := by decide
  have e2 : wrap64 ((2 : Int) ^ ((21 : Int)).toNat) = 2097152 := IntWalk.wrap64_in _ (by decide)
  rw [e1, e2]
  have e3 : wrap64 (x0 * 4096 + x1 * 2048 + x2 * 2 + x3 * 1048576 - 2097152) = x0 * 4096 + x1 * 2048 + x2 * 2 + x3 * 1048576 - 2097152 := IntWalk.wrap64_in _ (by omega)
  rw [e3]
  by_cases hs : (x0 * 4096 + x1 * 2048 + x2 * 2 + x3 * 1048576) / 1048576 = 1
  · rw [if_pos ⟨rfl, by decide, hs⟩, if_pos hs]
  · rw [if_neg (fun h => hs h.2.2), if_neg hs]
theorem nums_J (v : Int) (h0 : 0 ≤ v) (h1 : v < 4294967296) : nums v shJ.low shJ.fs 1 = v / 128 % 32 ∧ nums v shJ.low shJ.fs 2 = 0 ∧ nums v shJ.low shJ.fs 3 = 0 ∧ nums v shJ.low shJ.fs 4 = (if (v / 4096 % 256 * 4096 + v / 1048576 % 2 * 2048 + v / 2097152 % 1024 * 2 + v / 2147483648 % 2 * 1048576) / 1048576 = 1 then v / 4096 % 256 * 4096 + v / 1048576 % 2 * 2048 + v / 2097152 % 1024 * 2 + v / 2147483648 % 2 * 1048576 - 2097152 else v / 4096 % 256 * 4096 + v / 1048576 % 2 * 2048 + v / 2097152 % 1024 * 2 + v / 2147483648 % 2 * 1048576) := by
  refine ⟨?_, ?_, ?_, ?_⟩
  · show nums v (-1048576) [fd, ⟨4, [(12, 8, 12), (11, 1, 20), (1, 10, 21), (20, 1, 31)]⟩] 1 = _
    rw [nums2, if_neg (by decide), if_pos (by decide)]
    exact fin_rd _ v h0 h1
  · show nums v (-1048576) [fd, ⟨4, [(12, 8, 12), (11, 1, 20), (1, 10, 21), (20, 1, 31)]⟩] 2 = _
    rw [nums2, if_neg (by decide), if_neg (by decide)]
  · show nums v (-1048576) [fd, ⟨4, [(12, 8, 12), (11, 1, 20), (1, 10, 21), (20, 1, 31)]⟩] 3 = _
    rw [nums2, if_neg (by decide), if_neg (by decide)]
  · show nums v (-1048576) [fd, ⟨4, [(12, 8, 12), (11, 1, 20), (1, 10, 21), (20, 1, 31)]⟩] 4 = _
    rw [nums2, if_pos (by decide)]
    exact fin_J v h0 h1
end rv
end Go.Proofs.YtjjkocklpcdbkaaGreat
namespace Go.Proofs.YtjjkocklpcdbkaaGreat
open Go.RowKit
set_option linter.unusedVariables false
set_option maxRecDepth 100000
set_option linter.unusedSimpArgs false
namespace rv
theorem tm2 (n : Int) : n.tmod 2 = 0 ↔ n % 2 = 0 := (Int.dvd_iff_tmod_eq_zero).symm.trans Int.dvd_iff_emod_eq_zero
theorem row_bd : ∀ k, k < 64 → 1 ≤ k → (0 ≤ (row k).a ∧ (row k).a < 128) ∧ (0 ≤ (row k).b ∧ (row k).b < 8) ∧ (0 ≤ (row k).c ∧ (row k).c < 64) := by decide +kernel
/-- what a word has -/
structure Has (k : Nat) (rd rs1 rs2 im v : Int) : Prop where
  rng : 0 ≤ v ∧ v < 4294967296
  a : v % 128 = (row k).a
  b : (sh k).b = true → v / 4096 % 8 = (row k).b
  c : (lt k = 82 ∨ lt k = 89) → v / 33554432 % 64 = (row k).c
  c' : lt k = 88 → v / 67108864 % 64 = (row k).c
  n1 : numsK k v 1 = rd
  n2 : numsK k v 2 = rs1
  n3 : numsK k v 3 = rs2
  n4 : numsK k v 4 = im
theorem chk_R (rd rs1 rs2 im : Int) : chkS shR rd rs1 rs2 im = true ↔ (0 ≤ rd ∧ rd ≤ 31) ∧ (0 ≤ rs1 ∧ rs1 ≤ 31) ∧ (0 ≤ rs2 ∧ rs2 ≤ 31) ∧ (im = 0) := by
  have ht := tm2 im
  have h1 : im.tmod 1 = 0 := Int.tmod_one _
  simp only [chkS, shR, zV, fd, fs1, fs2, List.any_cons, List.any_nil, Bool.and_eq_true, Bool.or_eq_true, decide_eq_true_eq]
  simp
  omega
theorem has_R (k : Nat) (h1 : k < 64) (h2 : 1 ≤ k) (hf : (row k).form = ⟨#[82]⟩) (rd rs1 rs2 im : Int) (hc : chkS (sh k) rd rs1 rs2 im = true) : Has k rd rs1 rs2 im (wordK k rd rs1 rs2 im) := by
  have hs : sh k = shR := by unfold sh; rw [hf]; rfl
  have hl : lt k = 82 := by unfold lt; rw [hf]; rfl
  obtain ⟨ha, hb, hcc⟩ := row_bd k h1 h2
  rw [hs] at hc
  obtain ⟨hrd, hrs1, hrs2, rfl⟩ := (chk_R _ _ _ _).mp hc
  have e : wordK k rd rs1 rs2 0 = VR (row k).a (row k).b (row k).c rd rs1 rs2 0 3 := by unfold wordK; rw [hl]; rfl
  have hv := e.trans (VR_sum (row k).a (row k).b (row k).c rd rs1 rs2 0 ha hb hcc hrd hrs1 hrs2)
  generalize wordK k rd rs1 rs2 0 = v at *
  obtain ⟨qrng, qa, qb, qc, qn1, qn2, qn3⟩ := VR_has (row k).a (row k).b (row k).c rd rs1 rs2 0 v ha hb hcc hrd hrs1 hrs2 hv
  obtain ⟨m1, m2, m3, m4⟩ := nums_R v qrng.1 qrng.2
  have hN : ∀ q, numsK k v q = nums v shR.low shR.fs q := fun q => by unfold numsK; rw [hs]
  exact ⟨qrng, qa, fun _ => qb, fun _ => qc, fun h => (by rw [hl] at h; omega), (hN 1).trans (m1.trans qn1), (hN 2).trans (m2.trans qn2), (hN 3).trans (m3.trans qn3), (hN 4).trans m4⟩
theorem chk_I (rd rs1 rs2 im : Int) : chkS shI rd rs1 rs2 im = true ↔ (0 ≤ rd ∧ rd ≤ 31) ∧ (0 ≤ rs1 ∧ rs1 ≤ 31) ∧ (rs2 = 0) ∧ (-2048 ≤ im ∧ im ≤ 2047) := by
  have ht := tm2 im
  have h1 : im.tmod 1 = 0 := Int.tmod_one _
  simp only [chkS, shI, zV, fd, fs1, fs2, List.any_cons, List.any_nil, Bool.and_eq_true, Bool.or_eq_true, decide_eq_true_eq]
  simp
  omega
theorem has_I (k : Nat) (h1 : k < 64) (h2 : 1 ≤ k) (hf : (row k).form = ⟨#[73]⟩) (rd rs1 rs2 im : Int) (hc : chkS (sh k) rd rs1 rs2 im = true) : Has k rd rs1 rs2 im (wordK k rd rs1 rs2 im) := by
  have hs : sh k = shI := by unfold sh; rw [hf]; rfl
  have hl : lt k = 73 := by unfold lt; rw [hf]; rfl
  obtain ⟨ha, hb, hcc⟩ := row_bd k h1 h2
  rw [hs] at hc
  obtain ⟨hrd, hrs1, rfl, him⟩ := (chk_I _ _ _ _).mp hc
  have e : wordK k rd rs1 0 im = VI (row k).a (row k).b (row k).c rd rs1 0 im 3 := by unfold wordK; rw [hl]; rfl
  have hv := e.trans (VI_sum (row k).a (row k).b (row k).c rd rs1 0 im ha hb hcc hrd hrs1)
  generalize wordK k rd rs1 0 im = v at *
  obtain ⟨qrng, qa, qb, qn1, qn2, qn4⟩ := VI_has (row k).a (row k).b (row k).c rd rs1 0 im v ha hb hcc hrd hrs1 him hv
  obtain ⟨m1, m2, m3, m4⟩ := nums_I v qrng.1 qrng.2
  have hN : ∀ q, numsK k v q = nums v shI.low shI.fs q := fun q => by unfold numsK; rw [hs]
  exact ⟨qrng, qa, fun _ => qb, fun h => (by rw [hl] at h; omega), fun h => (by rw [hl] at h; omega), (hN 1).trans (m1.trans qn1), (hN 2).trans (m2.trans qn2), (hN 3).trans m3, (hN 4).trans (m4.trans qn4)⟩
theorem chk_X (rd rs1 rs2 im : Int) : chkS shX rd rs1 rs2 im = true ↔ (0 ≤ rd ∧ rd ≤ 31) ∧ (0 ≤ rs1 ∧ rs1 ≤ 31) ∧ (rs2 = 0) ∧ (0 ≤ im ∧ im ≤ 63) := by
  have ht := tm2 im
  have h1 : im.tmod 1 = 0 := Int.tmod_one _
  simp only [chkS, shX, zV, fd, fs1, fs2, List.any_cons, List.any_nil, Bool.and_eq_true, Bool.or_eq_true, decide_eq_true_eq]
  simp
  omega
theorem has_X (k : Nat) (h1 : k < 64) (h2 : 1 ≤ k) (hf : (row k).form = ⟨#[88]⟩) (rd rs1 rs2 im : Int) (hc : chkS (sh k) rd rs1 rs2 im = true) : Has k rd rs1 rs2 im (wordK k rd rs1 rs2 im) := by
  have hs : sh k = shX := by unfold sh; rw [hf]; rfl
  have hl : lt k = 88 := by unfold lt; rw [hf]; rfl
  obtain ⟨ha, hb, hcc⟩ := row_bd k h1 h2
  rw [hs] at hc
  obtain ⟨hrd, hrs1, rfl, him⟩ := (chk_X _ _ _ _).mp hc
  have e : wordK k rd rs1 0 im = VX (row k).a (row k).b (row k).c rd rs1 0 im 3 := by unfold wordK; rw [hl]; rfl
  have hv := e.trans (VX_sum (row k).a (row k).b (row k).c rd rs1 0 im ha hb hcc hrd hrs1)
  generalize wordK k rd rs1 0 im = v at *
  obtain ⟨qrng, qa, qb, qc, qn1, qn2, qn4⟩ := VX_has (row k).a (row k).b (row k).c rd rs1 0 im v ha hb hcc hrd hrs1 him hv
  obtain ⟨m1, m2, m3, m4⟩ := nums_X v qrng.1 qrng.2
  have hN : ∀ q, numsK k v q = nums v shX.low shX.fs q := fun q => by unfold numsK; rw [hs]
  exact ⟨qrng, qa, fun _ => qb, fun h => (by rw [hl] at h; omega), fun _ => qc, (hN 1).trans (m1.trans qn1), (hN 2).trans (m2.trans qn2), (hN 3).trans m3, (hN 4).trans (m4.trans qn4)⟩
theorem chk_Y (rd rs1 rs2 im : Int) : chkS shY rd rs1 rs2 im = true ↔ (0 ≤ rd ∧ rd ≤ 31) ∧ (0 ≤ rs1 ∧ rs1 ≤ 31) ∧ (rs2 = 0) ∧ (0 ≤ im ∧ im ≤ 31) := by
  have ht := tm2 im
  have h1 : im.tmod 1 = 0 := Int.tmod_one _
  simp only [chkS, shY, zV, fd, fs1, fs2, List.any_cons, List.any_nil, Bool.and_eq_true, Bool.or_eq_true, decide_eq_true_eq]
  simp
  omega
theorem has_Y (k : Nat) (h1 : k < 64) (h2 : 1 ≤ k) (hf : (row k).form = ⟨#[89]⟩) (rd rs1 rs2 im : Int) (hc : chkS (sh k) rd rs1 rs2 im = true) : Has k rd rs1 rs2 im (wordK k rd rs1 rs2 im) := by
  have hs : sh k = shY := by unfold sh; rw [hf]; rfl
  have hl : lt k = 89 := by unfold lt; rw [hf]; rfl
  obtain ⟨ha, hb, hcc⟩ := row_bd k h1 h2
  rw [hs] at hc
  obtain ⟨hrd, hrs1, rfl, him⟩ := (chk_Y _ _ _ _).mp hc
  have e : wordK k rd rs1 0 im = VY (row k).a (row k).b (row k).c rd rs1 0 im 3 := by unfold wordK; rw [hl]; rfl
  have hv := e.trans (VY_sum (row k).a (row k).b (row k).c rd rs1 0 im ha hb hcc hrd hrs1)
  generalize wordK k rd rs1 0 im = v at *
  obtain ⟨qrng, qa, qb, qc, qn1, qn2, qn4⟩ := VY_has (row k).a (row k).b (row k).c rd rs1 0 im v ha hb hcc hrd hrs1 him hv
  obtain ⟨m1, m2, m3, m4⟩ := nums_Y v qrng.1 qrng.2
  have hN : ∀ q, numsK k v q = nums v shY.low shY.fs q := fun q => by unfold numsK; rw [hs]
  exact ⟨qrng, qa, fun _ => qb, fun _ => qc, fun h => (by rw [hl] at h; omega), (hN 1).trans (m1.trans qn1), (hN 2).trans (m2.trans qn2), (hN 3).trans m3, (hN 4).trans (m4.trans qn4)⟩
theorem chk_S (rd rs1 rs2 im : Int) : chkS shS rd rs1 rs2 im = true ↔ (rd = 0) ∧ (0 ≤ rs1 ∧ rs1 ≤ 31) ∧ (0 ≤ rs2 ∧ rs2 ≤ 31) ∧ (-2048 ≤ im ∧ im ≤ 2047) := by
  have ht := tm2 im
  have h1 : im.tmod 1 = 0 := Int.tmod_one _
  simp only [chkS, shS, zV, fd, fs1, fs2, List.any_cons, List.any_nil, Bool.and_eq_true, Bool.or_eq_true, decide_eq_true_eq]
  simp
  omega
theorem has_S (k : Nat) (h1 : k < 64) (h2 : 1 ≤ k) (hf : (row k).form = ⟨#[83]⟩) (rd rs1 rs2 im : Int) (hc : chkS (sh k) rd rs1 rs2 im = true) : Has k rd rs1 rs2 im (wordK k rd rs1 rs2 im) := by
  have hs : sh k = shS := by unfold sh; rw [hf]; rfl
  have hl : lt k = 83 := by unfold lt; rw [hf]; rfl
  obtain ⟨ha, hb, hcc⟩ := row_bd k h1 h2
  rw [hs] at hc
  obtain ⟨rfl, hrs1, hrs2, him⟩ := (chk_S _ _ _ _).mp hc
  have e : wordK k 0 rs1 rs2 im = VS (row k).a (row k).b (row k).c 0 rs1 rs2 im 3 := by unfold wordK; rw [hl]; rfl
  have hv := e.trans (VS_sum (row k).a (row k).b (row k).c 0 rs1 rs2 im ha hb hcc hrs1 hrs2)
  generalize wordK k 0 rs1 rs2 im = v at *
  obtain ⟨qrng, qa, qb, qn2, qn3, qn4⟩ := VS_has (row k).a (row k).b (row k).c 0 rs1 rs2 im v ha hb hcc hrs1 hrs2 him hv
  obtain ⟨m1, m2, m3, m4⟩ := nums_S v qrng.1 qrng.2
  have hN : ∀ q, numsK k v q = nums v shS.low shS.fs q := fun q => by unfold numsK; rw [hs]
  exact ⟨qrng, qa, fun _ => qb, fun h => (by rw [hl] at h; omega), fun h => (by rw [hl] at h; omega), (hN 1).trans m1, (hN 2).trans (m2.trans qn2), (hN 3).trans (m3.trans qn3), (hN 4).trans (m4.trans qn4)⟩
theorem chk_B (rd rs1 rs2 im : Int) : chkS shB rd rs1 rs2 im = true ↔ (rd = 0) ∧ (0 ≤ rs1 ∧ rs1 ≤ 31) ∧ (0 ≤ rs2 ∧ rs2 ≤ 31) ∧ (-4096 ≤ im ∧ im ≤ 4094 ∧ im % 2 = 0) := by
  have ht := tm2 im
  have h1 : im.tmod 1 = 0 := Int.tmod_one _
  simp only [chkS, shB, zV, fd, fs1, fs2, List.any_cons, List.any_nil, Bool.and_eq_true, Bool.or_eq_true, decide_eq_true_eq]
  simp
  constructor
  · intro h
    have h2 := of_decide_eq_true h.2
    rw [ht] at h2
    omega
  · intro h
    exact ⟨by omega, decide_eq_true (by rw [ht]; omega)⟩
theorem has_B (k : Nat) (h1 : k < 64) (h2 : 1 ≤ k) (hf : (row k).form = ⟨#[66]⟩) (rd rs1 rs2 im : Int) (hc : chkS (sh k) rd rs1 rs2 im = true) : Has k rd rs1 rs2 im (wordK k rd rs1 rs2 im) := by
  have hs : sh k = shB := by unfold sh; rw [hf]; rfl
  have hl : lt k = 66 := by unfold lt; rw [hf]; rfl
  obtain ⟨ha, hb, hcc⟩ := row_bd k h1 h2
  rw [hs] at hc
  obtain ⟨rfl, hrs1, hrs2, him⟩ := (chk_B _ _ _ _).mp hc
  have e : wordK k 0 rs1 rs2 im = VB (row k).a (row k).b (row k).c 0 rs1 rs2 im 3 := by unfold wordK; rw [hl]; rfl
  have hv := e.trans (VB_sum (row k).a (row k).b (row k).c 0 rs1 rs2 im ha hb hcc hrs1 hrs2)
  generalize wordK k 0 rs1 rs2 im = v at *
  obtain ⟨qrng, qa, qb, qn2, qn3, qn4⟩ := VB_has (row k).a (row k).b (row k).c 0 rs1 rs2 im v ha hb hcc hrs1 hrs2 him hv
  obtain ⟨m1, m2, m3, m4⟩ := nums_B v qrng.1 qrng.2
  have hN : ∀ q, numsK k v q = nums v shB.low shB.fs q := fun q => by unfold numsK; rw [hs]
  exact ⟨qrng, qa, fun _ => qb, fun h => (by rw [hl] at h; omega), fun h => (by rw [hl] at h; omega), (hN 1).trans m1, (hN 2).trans (m2.trans qn2), (hN 3).trans (m3.trans qn3), (hN 4).trans (m4.trans qn4)⟩
theorem chk_U (rd rs1 rs2 im : Int) : chkS shU rd rs1 rs2 im = true ↔ (0 ≤ rd ∧ rd ≤ 31) ∧ (rs1 = 0) ∧ (rs2 = 0) ∧ (-524288 ≤ im ∧ im ≤ 524287) := by
  have ht := tm2 im
  have h1 : im.tmod 1 = 0 := Int.tmod_one _
  simp only [chkS, shU, zV, fd, fs1, fs2, List.any_cons, List.any_nil, Bool.and_eq_true, Bool.or_eq_true, decide_eq_true_eq]
  simp
  omega
theorem has_U (k : Nat) (h1 : k < 64) (h2 : 1 ≤ k) (hf : (row k).form = ⟨#[85]⟩) (rd rs1 rs2 im : Int) (hc : chkS (sh k) rd rs1 rs2 im = true) : Has k rd rs1 rs2 im (wordK k rd rs1 rs2 im) := by
  have hs : sh k = shU := by unfold sh; rw [hf]; rfl
  have hl : lt k = 85 := by unfold lt; rw [hf]; rfl
  obtain ⟨ha, hb, hcc⟩ := row_bd k h1 h2
  rw [hs] at hc
  obtain ⟨hrd, rfl, rfl, him⟩ := (chk_U _ _ _ _).mp hc
  have e : wordK k rd 0 0 im = VU (row k).a (row k).b (row k).c rd 0 0 im 2 := by unfold wordK; rw [hl]; rfl
  have hv := e.trans (VU_sum (row k).a (row k).b (row k).c rd 0 0 im ha hb hcc hrd)
  generalize wordK k rd 0 0 im = v at *
  obtain ⟨qrng, qa, qn1, qn4⟩ := VU_has (row k).a (row k).b (row k).c rd 0 0 im v ha hb hcc hrd him hv
  obtain ⟨m1, m2, m3, m4⟩ := nums_U v qrng.1 qrng.2
  have hN : ∀ q, numsK k v q = nums v shU.low shU.fs q := fun q => by unfold numsK; rw [hs]
  exact ⟨qrng, qa, fun h => (by rw [hs] at h; cases h), fun h => (by rw [hl] at h; omega), fun h => (by rw [hl] at h; omega), (hN 1).trans (m1.trans qn1), (hN 2).trans m2, (hN 3).trans m3, (hN 4).trans (m4.trans qn4)⟩
theorem chk_J (rd rs1 rs2 im : Int) : chkS shJ rd rs1 rs2 im = true ↔ (0 ≤ rd ∧ rd ≤ 31) ∧ (rs1 = 0) ∧ (rs2 = 0) ∧ (-1048576 ≤ im ∧ im ≤ 1048574 ∧ im % 2 = 0) := by
  have ht := tm2 im
  have h1 : im.tmod 1 = 0 := Int.tmod_one _
  simp only [chkS, shJ, zV, fd, fs1, fs2, List.any_cons, List.any_nil, Bool.and_eq_true, Bool.or_eq_true, decide_eq_true_eq]
  simp
  constructor
  · intro h
    have h2 := of_decide_eq_true h.2
    rw [ht] at h2
    omega
  · intro h
    exact ⟨by omega, decide_eq_true (by rw [ht]; omega)⟩
theorem has_J (k : Nat) (h1 : k < 64) (h2 : 1 ≤ k) (hf : (row k).form = ⟨#[74]⟩) (rd rs1 rs2 im : Int) (hc : chkS (sh k) rd rs1 rs2 im = true) : Has k rd rs1 rs2 im (wordK k rd rs1 rs2 im) := by
  have hs : sh k = shJ := by unfold sh; rw [hf]; rfl
  have hl : lt k = 74 := by unfold lt; rw [hf]; rfl
  obtain ⟨ha, hb, hcc⟩ := row_bd k h1 h2
  rw [hs] at hc
  obtain ⟨hrd, rfl, rfl, him⟩ := (chk_J _ _ _ _).mp hc
  have e : wordK k rd 0 0 im = VJ (row k).a (row k).b (row k).c rd 0 0 im 2 := by unfold wordK; rw [hl]; rfl
  have hv := e.trans (VJ_sum (row k).a (row k).b (row k).c rd 0 0 im ha hb hcc hrd)
  generalize wordK k rd 0 0 im = v at *
  obtain ⟨qrng, qa, qn1, qn4⟩ := VJ_has (row k).a (row k).b (row k).c rd 0 0 im v ha hb hcc hrd him hv
  obtain ⟨m1, m2, m3, m4⟩ := nums_J v qrng.1 qrng.2
  have hN : ∀ q, numsK k v q = nums v shJ.low shJ.fs q := fun q => by unfold numsK; rw [hs]
  exact ⟨qrng, qa, fun h => (by rw [hs] at h; cases h), fun h => (by rw [hl] at h; omega), fun h => (by rw [hl] at h; omega), (hN 1).trans (m1.trans qn1), (hN 2).trans m2, (hN 3).trans m3, (hN 4).trans (m4.trans qn4)⟩
theorem chk_E (rd rs1 rs2 im : Int) : chkS shE rd rs1 rs2 im = true ↔ rd = 0 ∧ rs1 = 0 ∧ rs2 = 0 ∧ im = 0 := by
  simp only [chkS, shE, zV, List.any_nil, Bool.and_eq_true, Bool.or_eq_true, decide_eq_true_eq]
  simp
  omega
theorem has_E (k : Nat) (h1 : k < 64) (h2 : 1 ≤ k) (hf : (row k).form = ⟨#[69]⟩) (rd rs1 rs2 im : Int) (hc : chkS (sh k) rd rs1 rs2 im = true) : Has k rd rs1 rs2 im (wordK k rd rs1 rs2 im) := by
  have hs : sh k = shE := by unfold sh; rw [hf]; rfl
  have hl : lt k = 69 := by unfold lt; rw [hf]; rfl
  obtain ⟨ha, hb, hcc⟩ := row_bd k h1 h2
  rw [hs] at hc
  obtain ⟨rfl, rfl, rfl, rfl⟩ := (chk_E _ _ _ _).mp hc
  have e : wordK k 0 0 0 0 = (row k).a := by unfold wordK; rw [hl]; rfl
  have hN : ∀ v q, numsK k v q = 0 := fun v q => by unfold numsK; rw [hs]; rfl
  rw [e]
  exact ⟨by omega, by omega, fun h => (by rw [hs] at h; cases h), fun h => (by rw [hl] at h; omega), fun h => (by rw [hl] at h; omega), hN _ _, hN _ _, hN _ _, hN _ _⟩
theorem has_any (k : Nat) (h1 : k < 64) (h2 : 1 ≤ k) (rd rs1 rs2 im : Int) (hc : chkS (sh k) rd rs1 rs2 im = true) : Has k rd rs1 rs2 im (wordK k rd rs1 rs2 im) := by
  rcases form_cases k h1 h2 with h | h | h | h | h | h | h | h | h
  · exact has_R k h1 h2 h _ _ _ _ hc
  · exact has_I k h1 h2 h _ _ _ _ hc
  · exact has_X k h1 h2 h _ _ _ _ hc
  · exact has_Y k h1 h2 h _ _ _ _ hc
  · exact has_S k h1 h2 h _ _ _ _ hc
  · exact has_B k h1 h2 h _ _ _ _ hc
  · exact has_U k h1 h2 h _ _ _ _ hc
  · exact has_J k h1 h2 h _ _ _ _ hc
  · exact has_E k h1 h2 h _ _ _ _ hc
/-- a, b and c tell the operation -/
def uniqB (j k : Nat) : Bool := decide (j = 0) || decide (k = 0) || decide (j = k) || decide ((row j).a ≠ (row k).a) || ((sh j).b && (sh k).b && decide ((row j).b ≠ (row k).b)) || (decide (lt j = lt k) && decide ((row j).c ≠ (row k).c))
theorem uniq_all : ∀ j, j < 64 → ∀ k, k < 64 → uniqB j k = true := by decide +kernel
theorem uniq (j : Nat) (hj : j < 64) (k : Nat) (hk : k < 64) (j1 : 1 ≤ j) (k1 : 1 ≤ k) (ha : (row j).a = (row k).a) (hb : (sh j).b = true → (sh k).b = true → (row j).b = (row k).b) (hc : lt j = lt k → (row j).c = (row k).c) : j = k := by
  have h := uniq_all j hj k hk
  unfold uniqB at h
  simp only [Bool.or_eq_true, Bool.and_eq_true, decide_eq_true_eq] at h
  rcases h with ((((h | h) | h) | h) | h) | h
  · omega
  · omega
  · exact h
  · exact absurd ha h
  · exact absurd (hb h.1.1 h.1.2) h.2
  · exact absurd (hc h.1) h.2
theorem c_lt : ∀ k, k < 64 → 1 ≤ k → (lt k = 82 ∨ lt k = 89 ∨ lt k = 88 ∨ (row k).c = 0) := by decide +kernel
theorem has_uniq (j k : Nat) (hj : j < 64) (hj1 : 1 ≤ j) (hk : k < 64) (hk1 : 1 ≤ k) (a1 a2 a3 a4 b1 b2 b3 b4 v : Int) (h : Has j a1 a2 a3 a4 v) (g : Has k b1 b2 b3 b4 v) : j = k := by
  refine uniq j hj k hk hj1 hk1 (h.a.symm.trans g.a) (fun p q => (h.b p).symm.trans (g.b q)) (fun e => ?_)
  rcases c_lt j hj hj1 with p | p | p | p
  · exact (h.c (Or.inl p)).symm.trans (g.c (Or.inl (e ▸ p)))
  · exact (h.c (Or.inr p)).symm.trans (g.c (Or.inr (e ▸ p)))
  · exact (h.c' p).symm.trans (g.c' (e ▸ p))
  · rcases c_lt k hk hk1 with q | q | q | q
    · exact (h.c (Or.inl (e ▸ q))).symm.trans (g.c (Or.inl q))
    · exact (h.c (Or.inr (e ▸ q))).symm.trans (g.c (Or.inr q))
    · exact (h.c' (e ▸ q)).symm.trans (g.c' q)
    · rw [p, q]
theorem chkI_nat (k : Nat) (h1 : k < 64) (h2 : 1 ≤ k) (rd rs1 rs2 im : Int) : chkI k rd rs1 rs2 im = 0 ↔ chkS (sh k) rd rs1 rs2 im = true := by
  have hi : is k = true := decide_eq_true ⟨by omega, by omega⟩
  unfold chkI chkR
  rw [if_pos hi, Int.toNat_natCast]
  cases chkS (sh k) rd rs1 rs2 im <;> simp
theorem hits_of (k : Nat) (h1 : k < 64) (h2 : 1 ≤ k) (rd rs1 rs2 im : Int) (hc : chkS (sh k) rd rs1 rs2 im = true) : hits (wordK k rd rs1 rs2 im) k = true := by
  have h := has_any k h1 h2 rd rs1 rs2 im hc
  obtain ⟨r0, r1⟩ := h.rng
  unfold hits
  rw [h.n1, h.n2, h.n3, h.n4, decide_eq_true ((chkI_nat k h1 h2 _ _ _ _).mpr hc), decide_eq_true (rfl : wordK k rd rs1 rs2 im = wordK k rd rs1 rs2 im),
    mask32 7 _ 128 127 rfl rfl (by omega) r0 r1, mask32 3 _ 8 7 rfl rfl (by omega) (by omega) (by omega), decide_eq_true h.a.symm]
  cases hb : (sh k).b
  · rfl
  · rw [decide_eq_true (h.b hb).symm]
    rfl
theorem hits_has (k : Nat) (h1 : k < 64) (h2 : 1 ≤ k) (v : Int) (h : hits v k = true) : chkS (sh k) (numsK k v 1) (numsK k v 2) (numsK k v 3) (numsK k v 4) = true ∧ wordK k (numsK k v 1) (numsK k v 2) (numsK k v 3) (numsK k v 4) = v := by
  unfold hits at h
  simp only [Bool.and_eq_true, decide_eq_true_eq] at h
  exact ⟨(chkI_nat k h1 h2 _ _ _ _).mp h.1.2, h.2⟩
/-- a word is that of one operation alone -/
theorem opOf_word (k : Nat) (h1 : k < 64) (h2 : 1 ≤ k) (rd rs1 rs2 im : Int) (hc : chkS (sh k) rd rs1 rs2 im = true) : opOf (wordK k rd rs1 rs2 im) = k := by
  refine opOf_eq _ k h2 h1 (hits_of k h1 h2 _ _ _ _ hc) (fun i p q => ?_)
  cases hh : hits (wordK k rd rs1 rs2 im) i
  · rfl
  · obtain ⟨c, e⟩ := hits_has i (by omega) p _ hh
    have h := has_any i (by omega) p _ _ _ _ c
    rw [e] at h
    have := has_uniq i k (by omega) p h1 h2 _ _ _ _ _ _ _ _ _ h (has_any k h1 h2 _ _ _ _ hc)
    omega
end rv
end Go.Proofs.YtjjkocklpcdbkaaGreat
namespace Go.Proofs.YtjjkocklpcdbkaaGreat
open Go.RowKit
set_option linter.unusedVariables false
set_option maxRecDepth 100000
namespace rv
theorem dec_none (v : Int) (h : opOf v = 64) : decE v = 16 ∧ decRow v = #[.int .i64 0, .int .i64 0, .int .i64 0, .int .i64 0, .int .i64 0] := by unfold decE decRow; rw [h]; exact ⟨rfl, rfl⟩
end rv
namespace rv
theorem dec_back (op rd rs1 rs2 im : Int) (h : chkI op rd rs1 rs2 im = 0) : (0 ≤ encI op rd rs1 rs2 im ∧ encI op rd rs1 rs2 im < 4294967296) ∧ decRow (encI op rd rs1 rs2 im) = #[.int .i64 op, .int .i64 rd, .int .i64 rs1, .int .i64 rs2, .int .i64 im] ∧ decE (encI op rd rs1 rs2 im) = 0 := by
  obtain ⟨h1, h2⟩ := chk_is _ _ _ _ _ h
  obtain ⟨k, rfl⟩ : ∃ k : Nat, op = k := ⟨op.toNat, by omega⟩
  have hc := (chkI_nat k (by omega) (by omega) rd rs1 rs2 im).mp h
  have e : encI k rd rs1 rs2 im = wordK k rd rs1 rs2 im := by unfold encI; rw [if_pos h, Int.toNat_natCast]
  have hh := has_any k (by omega) (by omega) _ _ _ _ hc
  have ho := opOf_word k (by omega) (by omega) _ _ _ _ hc
  rw [e]
  refine ⟨hh.rng, ?_, ?_⟩
  · unfold decRow
    rw [ho, if_pos (by omega)]
    unfold readRow
    rw [hh.n1, hh.n2, hh.n3, hh.n4]
  · unfold decE
    rw [ho, if_pos (by omega)]
theorem dec_yes (v : Int) (h : decE v = 0) : ∃ k : Nat, 1 ≤ k ∧ k < 64 ∧ ∃ rd rs1 rs2 im : Int, decRow v = #[.int .i64 k, .int .i64 rd, .int .i64 rs1, .int .i64 rs2, .int .i64 im] ∧ chkI k rd rs1 rs2 im = 0 ∧ encI k rd rs1 rs2 im = v := by
  rcases opOf_hits v with ⟨a, b⟩ | ⟨a, b, c⟩
  · rw [(dec_none v a).1] at h
    cases h
  · obtain ⟨p, q⟩ := hits_has _ b a v c
    refine ⟨opOf v, a, b, _, _, _, _, ?_, (chkI_nat _ b a _ _ _ _).mpr p, ?_⟩
    · unfold decRow
      rw [if_pos b]
      rfl
    · unfold encI
      rw [if_pos ((chkI_nat _ b a _ _ _ _).mpr p), Int.toNat_natCast]
      exact q
theorem name_some : ∀ k, k < 64 → 1 ≤ k → (row k).name.toList ≠ [] := by decide +kernel
end rv
end Go.Proofs.YtjjkocklpcdbkaaGreat
