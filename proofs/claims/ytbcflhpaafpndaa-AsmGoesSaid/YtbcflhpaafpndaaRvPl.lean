/- The words and their fields, in plain numbers. -/
import Derived.Test.YtbcflhpaafpndaaRvCode
namespace Go.Proofs.Ytbcflhpaafpndaa
open Go.RowKit
set_option linter.unusedVariables false
namespace rv
theorem nat_or_add (A x i n : Nat) (h : A / 2 ^ i % 2 ^ n = 0) (hx : x < 2 ^ n) : A ||| x * 2 ^ i = A + x * 2 ^ i := by
  have hi := Nat.two_pow_pos i
  have e1 : A / 2 ^ i = A / 2 ^ i / 2 ^ n * 2 ^ n := by
    have := Nat.div_add_mod (A / 2 ^ i) (2 ^ n)
    rw [h, Nat.add_zero, Nat.mul_comm] at this
    exact this.symm
  have e2 : A = A / 2 ^ i / 2 ^ n * 2 ^ n * 2 ^ i + A % 2 ^ i := by
    rw [← e1]
    have := Nat.div_add_mod A (2 ^ i)
    rw [Nat.mul_comm] at this
    exact this.symm
  have hL : A % 2 ^ i < 2 ^ i := Nat.mod_lt _ hi
  generalize A / 2 ^ i / 2 ^ n = q at *
  generalize A % 2 ^ i = L at *
  have hH : q * 2 ^ n * 2 ^ i % 2 ^ i = 0 := Nat.mul_mod_left _ _
  have hH2 : q * 2 ^ n * 2 ^ i % 2 ^ (i + n) = 0 := by
    rw [Nat.mul_assoc, ← Nat.pow_add, Nat.add_comm n i]
    exact Nat.mul_mod_left _ _
  have hx1 : x * 2 ^ i % 2 ^ i = 0 := Nat.mul_mod_left _ _
  have hb : x * 2 ^ i + L < 2 ^ (i + n) := by
    have h1 : (x + 1) * 2 ^ i ≤ 2 ^ n * 2 ^ i := Nat.mul_le_mul_right _ hx
    rw [← Nat.pow_add, Nat.add_comm n i, Nat.succ_mul] at h1
    omega
  rw [e2, ← nat_join i _ L hH hL, Nat.or_assoc, Nat.or_comm L, nat_join i _ L hx1 hL, nat_join (i + n) _ _ hH2 hb, nat_join i _ L hH hL]
  omega
theorem or_int (i n : Nat) (A x p q : Int) (hp : p = 2 ^ i) (hq : q = 2 ^ n) (hA0 : 0 ≤ A) (hx0 : 0 ≤ x) (hx : x < q) (h : A / p % q = 0) : ((A.toNat ||| (x * p).toNat : Nat) : Int) = A + x * p := by
  obtain ⟨A, rfl⟩ := Int.eq_ofNat_of_zero_le hA0
  obtain ⟨x, rfl⟩ := Int.eq_ofNat_of_zero_le hx0
  subst hp hq
  have e1 : ((x : Int) * 2 ^ i) = ((x * 2 ^ i : Nat) : Int) := by simp
  have e2 : (A : Int) / 2 ^ i % 2 ^ n = ((A / 2 ^ i % 2 ^ n : Nat) : Int) := by simp
  rw [e2] at h
  have hx' : x < 2 ^ n := by
    have e3 : ((2 : Int) ^ n) = ((2 ^ n : Nat) : Int) := by simp
    rw [e3] at hx
    exact Int.ofNat_lt.mp hx
  rw [e1, Int.toNat_natCast, Int.toNat_natCast, nat_or_add A x i n (by exact_mod_cast h) hx']
  simp
theorem mask32 (i : Nat) (x q : Int) (m : Int) (hq : q = 2 ^ i) (hm : m = q - 1) (hi : i < 32) (h1 : 0 ≤ x) (h2 : x < 4294967296) : bits .and .u32 x m = x % q := by
  obtain ⟨x, rfl⟩ := Int.eq_ofNat_of_zero_le h1
  subst hq
  have hp : 0 < 2 ^ i := Nat.two_pow_pos i
  have hq : 2 ^ i ≤ 2 ^ 31 := Nat.pow_le_pow_right (by omega) (by omega)
  have e31 : (2 : Nat) ^ 31 = 2147483648 := rfl
  rw [e31] at hq
  have e : m = ((2 ^ i - 1 : Nat) : Int) := by rw [hm, Int.natCast_sub hp]; simp
  rw [e, u32_and_nat _ _ (by omega) (by omega), Nat.and_two_pow_sub_one_eq_mod]
  simp
theorem or32 (i n : Nat) (A x p q : Int) (hp : p = 2 ^ i) (hq : q = 2 ^ n) (hA0 : 0 ≤ A) (hA1 : A < 4294967296) (hx0 : 0 ≤ x) (hx : x < q) (hxp : x * p < 4294967296) (hp0 : 0 ≤ x * p) (h : A / p % q = 0) : bits .or .u32 A (x * p % 4294967296) = A + x * p := by
  rw [Int.emod_eq_of_lt hp0 hxp, u32_or _ _ hA0 hA1 hp0 hxp]
  exact or_int i n A x p q hp hq hA0 hx0 hx h
theorem or_piece (i n : Nat) (A z m p q : Int) (hp : p = 2 ^ i) (hq : q = 2 ^ n) (hm : m = q - 1) (hn : n < 32) (hA0 : 0 ≤ A) (hA1 : A < 4294967296) (hz0 : 0 ≤ z) (hz1 : z < 4294967296) (hxp : z % q * p < 4294967296) (hp0 : 0 ≤ z % q * p) (hq1 : 0 < q) (h : A / p % q = 0) :
    bits .or .u32 A (bits .and .u32 z m * p % 4294967296) = A + z % q * p := by
  rw [mask32 n z q m hq hm hn hz0 hz1]
  exact or32 i n A (z % q) p q hp hq hA0 hA1 (Int.emod_nonneg _ (by omega)) (Int.emod_lt_of_pos _ hq1) hxp hp0 h
theorem ext (v lo x hi p q : Int) (h : v = lo + x * p + hi * (p * q)) (hp : 0 < p) (hl0 : 0 ≤ lo) (hl : lo < p) (hx0 : 0 ≤ x) (hx : x < q) : v / p % q = x := by
  have e : v = lo + p * (x + q * hi) := by
    have e1 : hi * (p * q) = p * (q * hi) := by rw [Int.mul_comm, Int.mul_assoc]
    rw [h, e1, Int.mul_add, Int.mul_comm x p, Int.add_assoc]
  rw [e, Int.add_mul_ediv_left _ _ (by omega), Int.ediv_eq_zero_of_lt hl0 hl, Int.zero_add, Int.add_mul_emod_self_left, Int.emod_eq_of_lt hx0 hx]
theorem VR_sum (a b c rd rs1 rs2 im : Int) (ha : 0 ≤ a ∧ a < 128) (hb : 0 ≤ b ∧ b < 8) (hc : 0 ≤ c ∧ c < 64) (hrd : 0 ≤ rd ∧ rd ≤ 31) (hrs1 : 0 ≤ rs1 ∧ rs1 ≤ 31) (hrs2 : 0 ≤ rs2 ∧ rs2 ≤ 31) :
    VR a b c rd rs1 rs2 im 3 = a + b * 4096 + c * 33554432 + rd * 128 + rs1 * 32768 + rs2 * 1048576 := by
  have mrd : rd % 4294967296 % 32 = rd := by omega
  have mrs1 : rs1 % 4294967296 % 32 = rs1 := by omega
  have mrs2 : rs2 % 4294967296 % 32 = rs2 := by omega
  simp only [VR]
  rw [or32 12 3 a b 4096 8 rfl rfl (by omega) (by omega) (by omega) (by omega) (by omega) (by omega) (ext _ (a) 0 0 4096 8 (by omega) (by omega) (by omega) (by omega) (by omega) (by omega))]
  rw [or32 25 6 _ c 33554432 64 rfl rfl (by omega) (by omega) (by omega) (by omega) (by omega) (by omega) (ext _ (a + b * 4096) 0 0 33554432 64 (by omega) (by omega) (by omega) (by omega) (by omega) (by omega))]
  rw [or_piece 7 5 _ (rd % 4294967296) 31 128 32 rfl rfl rfl (by omega) (by omega) (by omega) (by omega) (by omega) (by omega) (by omega) (by omega) (ext _ (a) 0 (b + c * 8192) 128 32 (by omega) (by omega) (by omega) (by omega) (by omega) (by omega)), mrd]
  rw [or_piece 15 5 _ (rs1 % 4294967296) 31 32768 32 rfl rfl rfl (by omega) (by omega) (by omega) (by omega) (by omega) (by omega) (by omega) (by omega) (ext _ (a + b * 4096 + rd * 128) 0 (c * 32) 32768 32 (by omega) (by omega) (by omega) (by omega) (by omega) (by omega)), mrs1]
  rw [or_piece 20 5 _ (rs2 % 4294967296) 31 1048576 32 rfl rfl rfl (by omega) (by omega) (by omega) (by omega) (by omega) (by omega) (by omega) (by omega) (ext _ (a + b * 4096 + rd * 128 + rs1 * 32768) 0 (c) 1048576 32 (by omega) (by omega) (by omega) (by omega) (by omega) (by omega)), mrs2]
theorem VR_has (a b c rd rs1 rs2 im v : Int) (ha : 0 ≤ a ∧ a < 128) (hb : 0 ≤ b ∧ b < 8) (hc : 0 ≤ c ∧ c < 64) (hrd : 0 ≤ rd ∧ rd ≤ 31) (hrs1 : 0 ≤ rs1 ∧ rs1 ≤ 31) (hrs2 : 0 ≤ rs2 ∧ rs2 ≤ 31) (hv : v = a + b * 4096 + c * 33554432 + rd * 128 + rs1 * 32768 + rs2 * 1048576) :
    (0 ≤ v ∧ v < 4294967296) ∧ v % 128 = a ∧ v / 4096 % 8 = b ∧ v / 33554432 % 64 = c ∧ v / 128 % 32 = rd ∧ v / 32768 % 32 = rs1 ∧ v / 1048576 % 32 = rs2 := by
  refine ⟨?_, ?_, ?_, ?_, ?_, ?_, ?_⟩
  · omega
  · have := ext v 0 a (b * 32 + c * 262144 + rd + rs1 * 256 + rs2 * 8192) 1 128 (by rw [hv]; omega) (by omega) (by omega) (by omega) (by omega) (by omega)
    omega
  · exact ext v (a + rd * 128) b (c * 1024 + rs1 + rs2 * 32) 4096 8 (by rw [hv]; omega) (by omega) (by omega) (by omega) (by omega) (by omega)
  · exact ext v (a + b * 4096 + rd * 128 + rs1 * 32768 + rs2 * 1048576) c 0 33554432 64 (by rw [hv]; omega) (by omega) (by omega) (by omega) (by omega) (by omega)
  · exact ext v (a) rd (b + c * 8192 + rs1 * 8 + rs2 * 256) 128 32 (by rw [hv]; omega) (by omega) (by omega) (by omega) (by omega) (by omega)
  · exact ext v (a + b * 4096 + rd * 128) rs1 (c * 32 + rs2) 32768 32 (by rw [hv]; omega) (by omega) (by omega) (by omega) (by omega) (by omega)
  · exact ext v (a + b * 4096 + rd * 128 + rs1 * 32768) rs2 (c) 1048576 32 (by rw [hv]; omega) (by omega) (by omega) (by omega) (by omega) (by omega)
theorem VI_sum (a b c rd rs1 rs2 im : Int) (ha : 0 ≤ a ∧ a < 128) (hb : 0 ≤ b ∧ b < 8) (hc : 0 ≤ c ∧ c < 64) (hrd : 0 ≤ rd ∧ rd ≤ 31) (hrs1 : 0 ≤ rs1 ∧ rs1 ≤ 31) :
    VI a b c rd rs1 rs2 im 3 = a + b * 4096 + rd * 128 + rs1 * 32768 + im % 4096 * 1048576 := by
  have mrd : rd % 4294967296 % 32 = rd := by omega
  have mrs1 : rs1 % 4294967296 % 32 = rs1 := by omega
  obtain ⟨x0, hx0⟩ : ∃ x, im % 4096 = x := ⟨_, rfl⟩
  have b0 : 0 ≤ x0 ∧ x0 < 4096 := by rw [← hx0]; exact ⟨Int.emod_nonneg _ (by omega), Int.emod_lt_of_pos _ (by omega)⟩
  have y0 : im % 4294967296 % 4096 = x0 := by rw [← hx0]; omega
  have z0 : 0 ≤ im % 4294967296 ∧ im % 4294967296 < 4294967296 := by omega
  rw [hx0]
  simp only [VI]
  rw [or32 12 3 a b 4096 8 rfl rfl (by omega) (by omega) (by omega) (by omega) (by omega) (by omega) (ext _ (a) 0 0 4096 8 (by omega) (by omega) (by omega) (by omega) (by omega) (by omega))]
  rw [or_piece 7 5 _ (rd % 4294967296) 31 128 32 rfl rfl rfl (by omega) (by omega) (by omega) (by omega) (by omega) (by omega) (by omega) (by omega) (ext _ (a) 0 (b) 128 32 (by omega) (by omega) (by omega) (by omega) (by omega) (by omega)), mrd]
  rw [or_piece 15 5 _ (rs1 % 4294967296) 31 32768 32 rfl rfl rfl (by omega) (by omega) (by omega) (by omega) (by omega) (by omega) (by omega) (by omega) (ext _ (a + b * 4096 + rd * 128) 0 0 32768 32 (by omega) (by omega) (by omega) (by omega) (by omega) (by omega)), mrs1]
  rw [or_piece 20 12 _ (im % 4294967296) 4095 1048576 4096 rfl rfl rfl (by omega) (by omega) (by omega) z0.1 z0.2 (by rw [y0]; omega) (by rw [y0]; omega) (by omega) (ext _ (a + b * 4096 + rd * 128 + rs1 * 32768) 0 0 1048576 4096 (by omega) (by omega) (by omega) (by omega) (by omega) (by omega)), y0]
theorem VI_has (a b c rd rs1 rs2 im v : Int) (ha : 0 ≤ a ∧ a < 128) (hb : 0 ≤ b ∧ b < 8) (hc : 0 ≤ c ∧ c < 64) (hrd : 0 ≤ rd ∧ rd ≤ 31) (hrs1 : 0 ≤ rs1 ∧ rs1 ≤ 31) (him : -2048 ≤ im ∧ im ≤ 2047) (hv : v = a + b * 4096 + rd * 128 + rs1 * 32768 + im % 4096 * 1048576) :
    (0 ≤ v ∧ v < 4294967296) ∧ v % 128 = a ∧ v / 4096 % 8 = b ∧ v / 128 % 32 = rd ∧ v / 32768 % 32 = rs1 ∧ (if (v / 1048576 % 4096) / 2048 = 1 then v / 1048576 % 4096 - 4096 else v / 1048576 % 4096) = im := by
  obtain ⟨x0, hx0⟩ : ∃ x, im % 4096 = x := ⟨_, rfl⟩
  rw [hx0] at hv
  have b0 : 0 ≤ x0 ∧ x0 < 4096 := by rw [← hx0]; exact ⟨Int.emod_nonneg _ (by omega), Int.emod_lt_of_pos _ (by omega)⟩
  have keys : True := trivial
  refine ⟨?_, ?_, ?_, ?_, ?_, ?_⟩
  rotate_left 5
  · have e0 : v / 1048576 % 4096 = x0 := ext v (a + b * 4096 + rd * 128 + rs1 * 32768) x0 0 1048576 4096 (by rw [hv]; omega) (by omega) (by omega) (by omega) (by omega) (by omega)
    rw [e0]
    clear hv e0
    split <;> omega
  all_goals clear him hx0
  · omega
  · have := ext v 0 a (b * 32 + rd + rs1 * 256 + x0 * 8192) 1 128 (by rw [hv]; omega) (by omega) (by omega) (by omega) (by omega) (by omega)
    omega
  · exact ext v (a + rd * 128) b (rs1 + x0 * 32) 4096 8 (by rw [hv]; omega) (by omega) (by omega) (by omega) (by omega) (by omega)
  · exact ext v (a) rd (b + rs1 * 8 + x0 * 256) 128 32 (by rw [hv]; omega) (by omega) (by omega) (by omega) (by omega) (by omega)
  · exact ext v (a + b * 4096 + rd * 128) rs1 (x0) 32768 32 (by rw [hv]; omega) (by omega) (by omega) (by omega) (by omega) (by omega)
theorem VX_sum (a b c rd rs1 rs2 im : Int) (ha : 0 ≤ a ∧ a < 128) (hb : 0 ≤ b ∧ b < 8) (hc : 0 ≤ c ∧ c < 64) (hrd : 0 ≤ rd ∧ rd ≤ 31) (hrs1 : 0 ≤ rs1 ∧ rs1 ≤ 31) :
    VX a b c rd rs1 rs2 im 3 = a + b * 4096 + c * 67108864 + rd * 128 + rs1 * 32768 + im % 64 * 1048576 := by
  have mrd : rd % 4294967296 % 32 = rd := by omega
  have mrs1 : rs1 % 4294967296 % 32 = rs1 := by omega
  obtain ⟨x0, hx0⟩ : ∃ x, im % 64 = x := ⟨_, rfl⟩
  have b0 : 0 ≤ x0 ∧ x0 < 64 := by rw [← hx0]; exact ⟨Int.emod_nonneg _ (by omega), Int.emod_lt_of_pos _ (by omega)⟩
  have y0 : im % 4294967296 % 64 = x0 := by rw [← hx0]; omega
  have z0 : 0 ≤ im % 4294967296 ∧ im % 4294967296 < 4294967296 := by omega
  rw [hx0]
  simp only [VX]
  rw [or32 12 3 a b 4096 8 rfl rfl (by omega) (by omega) (by omega) (by omega) (by omega) (by omega) (ext _ (a) 0 0 4096 8 (by omega) (by omega) (by omega) (by omega) (by omega) (by omega))]
  rw [or32 26 6 _ c 67108864 64 rfl rfl (by omega) (by omega) (by omega) (by omega) (by omega) (by omega) (ext _ (a + b * 4096) 0 0 67108864 64 (by omega) (by omega) (by omega) (by omega) (by omega) (by omega))]
  rw [or_piece 7 5 _ (rd % 4294967296) 31 128 32 rfl rfl rfl (by omega) (by omega) (by omega) (by omega) (by omega) (by omega) (by omega) (by omega) (ext _ (a) 0 (b + c * 16384) 128 32 (by omega) (by omega) (by omega) (by omega) (by omega) (by omega)), mrd]
  rw [or_piece 15 5 _ (rs1 % 4294967296) 31 32768 32 rfl rfl rfl (by omega) (by omega) (by omega) (by omega) (by omega) (by omega) (by omega) (by omega) (ext _ (a + b * 4096 + rd * 128) 0 (c * 64) 32768 32 (by omega) (by omega) (by omega) (by omega) (by omega) (by omega)), mrs1]
  rw [or_piece 20 6 _ (im % 4294967296) 63 1048576 64 rfl rfl rfl (by omega) (by omega) (by omega) z0.1 z0.2 (by rw [y0]; omega) (by rw [y0]; omega) (by omega) (ext _ (a + b * 4096 + rd * 128 + rs1 * 32768) 0 (c) 1048576 64 (by omega) (by omega) (by omega) (by omega) (by omega) (by omega)), y0]
theorem VX_has (a b c rd rs1 rs2 im v : Int) (ha : 0 ≤ a ∧ a < 128) (hb : 0 ≤ b ∧ b < 8) (hc : 0 ≤ c ∧ c < 64) (hrd : 0 ≤ rd ∧ rd ≤ 31) (hrs1 : 0 ≤ rs1 ∧ rs1 ≤ 31) (him : 0 ≤ im ∧ im ≤ 63) (hv : v = a + b * 4096 + c * 67108864 + rd * 128 + rs1 * 32768 + im % 64 * 1048576) :
    (0 ≤ v ∧ v < 4294967296) ∧ v % 128 = a ∧ v / 4096 % 8 = b ∧ v / 67108864 % 64 = c ∧ v / 128 % 32 = rd ∧ v / 32768 % 32 = rs1 ∧ v / 1048576 % 64 = im := by
  obtain ⟨x0, hx0⟩ : ∃ x, im % 64 = x := ⟨_, rfl⟩
  rw [hx0] at hv
  have b0 : 0 ≤ x0 ∧ x0 < 64 := by rw [← hx0]; exact ⟨Int.emod_nonneg _ (by omega), Int.emod_lt_of_pos _ (by omega)⟩
  have keys : True := trivial
  refine ⟨?_, ?_, ?_, ?_, ?_, ?_, ?_⟩
  rotate_left 6
  · have e0 : v / 1048576 % 64 = x0 := ext v (a + b * 4096 + rd * 128 + rs1 * 32768) x0 (c) 1048576 64 (by rw [hv]; omega) (by omega) (by omega) (by omega) (by omega) (by omega)
    rw [e0]
    clear hv e0
    omega
  all_goals clear him hx0
  · omega
  · have := ext v 0 a (b * 32 + c * 524288 + rd + rs1 * 256 + x0 * 8192) 1 128 (by rw [hv]; omega) (by omega) (by omega) (by omega) (by omega) (by omega)
    omega
  · exact ext v (a + rd * 128) b (c * 2048 + rs1 + x0 * 32) 4096 8 (by rw [hv]; omega) (by omega) (by omega) (by omega) (by omega) (by omega)
  · exact ext v (a + b * 4096 + rd * 128 + rs1 * 32768 + x0 * 1048576) c 0 67108864 64 (by rw [hv]; omega) (by omega) (by omega) (by omega) (by omega) (by omega)
  · exact ext v (a) rd (b + c * 16384 + rs1 * 8 + x0 * 256) 128 32 (by rw [hv]; omega) (by omega) (by omega) (by omega) (by omega) (by omega)
  · exact ext v (a + b * 4096 + rd * 128) rs1 (c * 64 + x0) 32768 32 (by rw [hv]; omega) (by omega) (by omega) (by omega) (by omega) (by omega)
theorem VY_sum (a b c rd rs1 rs2 im : Int) (ha : 0 ≤ a ∧ a < 128) (hb : 0 ≤ b ∧ b < 8) (hc : 0 ≤ c ∧ c < 64) (hrd : 0 ≤ rd ∧ rd ≤ 31) (hrs1 : 0 ≤ rs1 ∧ rs1 ≤ 31) :
    VY a b c rd rs1 rs2 im 3 = a + b * 4096 + c * 33554432 + rd * 128 + rs1 * 32768 + im % 32 * 1048576 := by
  have mrd : rd % 4294967296 % 32 = rd := by omega
  have mrs1 : rs1 % 4294967296 % 32 = rs1 := by omega
  obtain ⟨x0, hx0⟩ : ∃ x, im % 32 = x := ⟨_, rfl⟩
  have b0 : 0 ≤ x0 ∧ x0 < 32 := by rw [← hx0]; exact ⟨Int.emod_nonneg _ (by omega), Int.emod_lt_of_pos _ (by omega)⟩
  have y0 : im % 4294967296 % 32 = x0 := by rw [← hx0]; omega
  have z0 : 0 ≤ im % 4294967296 ∧ im % 4294967296 < 4294967296 := by omega
  rw [hx0]
  simp only [VY]
  rw [or32 12 3 a b 4096 8 rfl rfl (by omega) (by omega) (by omega) (by omega) (by omega) (by omega) (ext _ (a) 0 0 4096 8 (by omega) (by omega) (by omega) (by omega) (by omega) (by omega))]
  rw [or32 25 6 _ c 33554432 64 rfl rfl (by omega) (by omega) (by omega) (by omega) (by omega) (by omega) (ext _ (a + b * 4096) 0 0 33554432 64 (by omega) (by omega) (by omega) (by omega) (by omega) (by omega))]
  rw [or_piece 7 5 _ (rd % 4294967296) 31 128 32 rfl rfl rfl (by omega) (by omega) (by omega) (by omega) (by omega) (by omega) (by omega) (by omega) (ext _ (a) 0 (b + c * 8192) 128 32 (by omega) (by omega) (by omega) (by omega) (by omega) (by omega)), mrd]
  rw [or_piece 15 5 _ (rs1 % 4294967296) 31 32768 32 rfl rfl rfl (by omega) (by omega) (by omega) (by omega) (by omega) (by omega) (by omega) (by omega) (ext _ (a + b * 4096 + rd * 128) 0 (c * 32) 32768 32 (by omega) (by omega) (by omega) (by omega) (by omega) (by omega)), mrs1]
  rw [or_piece 20 5 _ (im % 4294967296) 31 1048576 32 rfl rfl rfl (by omega) (by omega) (by omega) z0.1 z0.2 (by rw [y0]; omega) (by rw [y0]; omega) (by omega) (ext _ (a + b * 4096 + rd * 128 + rs1 * 32768) 0 (c) 1048576 32 (by omega) (by omega) (by omega) (by omega) (by omega) (by omega)), y0]
theorem VY_has (a b c rd rs1 rs2 im v : Int) (ha : 0 ≤ a ∧ a < 128) (hb : 0 ≤ b ∧ b < 8) (hc : 0 ≤ c ∧ c < 64) (hrd : 0 ≤ rd ∧ rd ≤ 31) (hrs1 : 0 ≤ rs1 ∧ rs1 ≤ 31) (him : 0 ≤ im ∧ im ≤ 31) (hv : v = a + b * 4096 + c * 33554432 + rd * 128 + rs1 * 32768 + im % 32 * 1048576) :
    (0 ≤ v ∧ v < 4294967296) ∧ v % 128 = a ∧ v / 4096 % 8 = b ∧ v / 33554432 % 64 = c ∧ v / 128 % 32 = rd ∧ v / 32768 % 32 = rs1 ∧ v / 1048576 % 32 = im := by
  obtain ⟨x0, hx0⟩ : ∃ x, im % 32 = x := ⟨_, rfl⟩
  rw [hx0] at hv
  have b0 : 0 ≤ x0 ∧ x0 < 32 := by rw [← hx0]; exact ⟨Int.emod_nonneg _ (by omega), Int.emod_lt_of_pos _ (by omega)⟩
  have keys : True := trivial
  refine ⟨?_, ?_, ?_, ?_, ?_, ?_, ?_⟩
  rotate_left 6
  · have e0 : v / 1048576 % 32 = x0 := ext v (a + b * 4096 + rd * 128 + rs1 * 32768) x0 (c) 1048576 32 (by rw [hv]; omega) (by omega) (by omega) (by omega) (by omega) (by omega)
    rw [e0]
    clear hv e0
    omega
  all_goals clear him hx0
  · omega
  · have := ext v 0 a (b * 32 + c * 262144 + rd + rs1 * 256 + x0 * 8192) 1 128 (by rw [hv]; omega) (by omega) (by omega) (by omega) (by omega) (by omega)
    omega
  · exact ext v (a + rd * 128) b (c * 1024 + rs1 + x0 * 32) 4096 8 (by rw [hv]; omega) (by omega) (by omega) (by omega) (by omega) (by omega)
  · exact ext v (a + b * 4096 + rd * 128 + rs1 * 32768 + x0 * 1048576) c 0 33554432 64 (by rw [hv]; omega) (by omega) (by omega) (by omega) (by omega) (by omega)
  · exact ext v (a) rd (b + c * 8192 + rs1 * 8 + x0 * 256) 128 32 (by rw [hv]; omega) (by omega) (by omega) (by omega) (by omega) (by omega)
  · exact ext v (a + b * 4096 + rd * 128) rs1 (c * 32 + x0) 32768 32 (by rw [hv]; omega) (by omega) (by omega) (by omega) (by omega) (by omega)
theorem VS_sum (a b c rd rs1 rs2 im : Int) (ha : 0 ≤ a ∧ a < 128) (hb : 0 ≤ b ∧ b < 8) (hc : 0 ≤ c ∧ c < 64) (hrs1 : 0 ≤ rs1 ∧ rs1 ≤ 31) (hrs2 : 0 ≤ rs2 ∧ rs2 ≤ 31) :
    VS a b c rd rs1 rs2 im 3 = a + b * 4096 + rs1 * 32768 + rs2 * 1048576 + im % 32 * 128 + im / 32 % 128 * 33554432 := by
  have mrs1 : rs1 % 4294967296 % 32 = rs1 := by omega
  have mrs2 : rs2 % 4294967296 % 32 = rs2 := by omega
  obtain ⟨x0, hx0⟩ : ∃ x, im % 32 = x := ⟨_, rfl⟩
  have b0 : 0 ≤ x0 ∧ x0 < 32 := by rw [← hx0]; exact ⟨Int.emod_nonneg _ (by omega), Int.emod_lt_of_pos _ (by omega)⟩
  have y0 : im % 4294967296 % 32 = x0 := by rw [← hx0]; omega
  have z0 : 0 ≤ im % 4294967296 ∧ im % 4294967296 < 4294967296 := by omega
  obtain ⟨x1, hx1⟩ : ∃ x, im / 32 % 128 = x := ⟨_, rfl⟩
  have b1 : 0 ≤ x1 ∧ x1 < 128 := by rw [← hx1]; exact ⟨Int.emod_nonneg _ (by omega), Int.emod_lt_of_pos _ (by omega)⟩
  have y1 : im % 4294967296 / 32 % 128 = x1 := by rw [← hx1]; omega
  have z1 : 0 ≤ im % 4294967296 / 32 ∧ im % 4294967296 / 32 < 4294967296 := by omega
  rw [hx0, hx1]
  simp only [VS]
  rw [or32 12 3 a b 4096 8 rfl rfl (by omega) (by omega) (by omega) (by omega) (by omega) (by omega) (ext _ (a) 0 0 4096 8 (by omega) (by omega) (by omega) (by omega) (by omega) (by omega))]
  rw [or_piece 15 5 _ (rs1 % 4294967296) 31 32768 32 rfl rfl rfl (by omega) (by omega) (by omega) (by omega) (by omega) (by omega) (by omega) (by omega) (ext _ (a + b * 4096) 0 0 32768 32 (by omega) (by omega) (by omega) (by omega) (by omega) (by omega)), mrs1]
  rw [or_piece 20 5 _ (rs2 % 4294967296) 31 1048576 32 rfl rfl rfl (by omega) (by omega) (by omega) (by omega) (by omega) (by omega) (by omega) (by omega) (ext _ (a + b * 4096 + rs1 * 32768) 0 0 1048576 32 (by omega) (by omega) (by omega) (by omega) (by omega) (by omega)), mrs2]
  rw [or_piece 7 5 _ (im % 4294967296) 31 128 32 rfl rfl rfl (by omega) (by omega) (by omega) z0.1 z0.2 (by rw [y0]; omega) (by rw [y0]; omega) (by omega) (ext _ (a) 0 (b + rs1 * 8 + rs2 * 256) 128 32 (by omega) (by omega) (by omega) (by omega) (by omega) (by omega)), y0]
  rw [or_piece 25 7 _ (im % 4294967296 / 32) 127 33554432 128 rfl rfl rfl (by omega) (by omega) (by omega) z1.1 z1.2 (by rw [y1]; omega) (by rw [y1]; omega) (by omega) (ext _ (a + b * 4096 + rs1 * 32768 + rs2 * 1048576 + x0 * 128) 0 0 33554432 128 (by omega) (by omega) (by omega) (by omega) (by omega) (by omega)), y1]
theorem VS_has (a b c rd rs1 rs2 im v : Int) (ha : 0 ≤ a ∧ a < 128) (hb : 0 ≤ b ∧ b < 8) (hc : 0 ≤ c ∧ c < 64) (hrs1 : 0 ≤ rs1 ∧ rs1 ≤ 31) (hrs2 : 0 ≤ rs2 ∧ rs2 ≤ 31) (him : -2048 ≤ im ∧ im ≤ 2047) (hv : v = a + b * 4096 + rs1 * 32768 + rs2 * 1048576 + im % 32 * 128 + im / 32 % 128 * 33554432) :
    (0 ≤ v ∧ v < 4294967296) ∧ v % 128 = a ∧ v / 4096 % 8 = b ∧ v / 32768 % 32 = rs1 ∧ v / 1048576 % 32 = rs2 ∧ (if (v / 128 % 32 + v / 33554432 % 128 * 32) / 2048 = 1 then v / 128 % 32 + v / 33554432 % 128 * 32 - 4096 else v / 128 % 32 + v / 33554432 % 128 * 32) = im := by
  obtain ⟨x0, hx0⟩ : ∃ x, im % 32 = x := ⟨_, rfl⟩
  obtain ⟨x1, hx1⟩ : ∃ x, im / 32 % 128 = x := ⟨_, rfl⟩
  rw [hx0, hx1] at hv
  have b0 : 0 ≤ x0 ∧ x0 < 32 := by rw [← hx0]; exact ⟨Int.emod_nonneg _ (by omega), Int.emod_lt_of_pos _ (by omega)⟩
  have b1 : 0 ≤ x1 ∧ x1 < 128 := by rw [← hx1]; exact ⟨Int.emod_nonneg _ (by omega), Int.emod_lt_of_pos _ (by omega)⟩
  have keys : True := trivial
  refine ⟨?_, ?_, ?_, ?_, ?_, ?_⟩
  rotate_left 5
  · have e0 : v / 128 % 32 = x0 := ext v (a) x0 (b + rs1 * 8 + rs2 * 256 + x1 * 8192) 128 32 (by rw [hv]; omega) (by omega) (by omega) (by omega) (by omega) (by omega)
    have e1 : v / 33554432 % 128 = x1 := ext v (a + b * 4096 + rs1 * 32768 + rs2 * 1048576 + x0 * 128) x1 0 33554432 128 (by rw [hv]; omega) (by omega) (by omega) (by omega) (by omega) (by omega)
    rw [e0, e1]
    clear hv e0 e1
    split <;> omega
  all_goals clear him hx0 hx1
  · omega
  · have := ext v 0 a (b * 32 + rs1 * 256 + rs2 * 8192 + x0 + x1 * 262144) 1 128 (by rw [hv]; omega) (by omega) (by omega) (by omega) (by omega) (by omega)
    omega
  · exact ext v (a + x0 * 128) b (rs1 + rs2 * 32 + x1 * 1024) 4096 8 (by rw [hv]; omega) (by omega) (by omega) (by omega) (by omega) (by omega)
  · exact ext v (a + b * 4096 + x0 * 128) rs1 (rs2 + x1 * 32) 32768 32 (by rw [hv]; omega) (by omega) (by omega) (by omega) (by omega) (by omega)
  · exact ext v (a + b * 4096 + rs1 * 32768 + x0 * 128) rs2 (x1) 1048576 32 (by rw [hv]; omega) (by omega) (by omega) (by omega) (by omega) (by omega)
theorem VB_sum (a b c rd rs1 rs2 im : Int) (ha : 0 ≤ a ∧ a < 128) (hb : 0 ≤ b ∧ b < 8) (hc : 0 ≤ c ∧ c < 64) (hrs1 : 0 ≤ rs1 ∧ rs1 ≤ 31) (hrs2 : 0 ≤ rs2 ∧ rs2 ≤ 31) :
    VB a b c rd rs1 rs2 im 3 = a + b * 4096 + rs1 * 32768 + rs2 * 1048576 + im / 2048 % 2 * 128 + im / 2 % 16 * 256 + im / 32 % 64 * 33554432 + im / 4096 % 2 * 2147483648 := by
  have mrs1 : rs1 % 4294967296 % 32 = rs1 := by omega
  have mrs2 : rs2 % 4294967296 % 32 = rs2 := by omega
  obtain ⟨x0, hx0⟩ : ∃ x, im / 2048 % 2 = x := ⟨_, rfl⟩
  have b0 : 0 ≤ x0 ∧ x0 < 2 := by rw [← hx0]; exact ⟨Int.emod_nonneg _ (by omega), Int.emod_lt_of_pos _ (by omega)⟩
  have y0 : im % 4294967296 / 2048 % 2 = x0 := by rw [← hx0]; omega
  have z0 : 0 ≤ im % 4294967296 / 2048 ∧ im % 4294967296 / 2048 < 4294967296 := by omega
  obtain ⟨x1, hx1⟩ : ∃ x, im / 2 % 16 = x := ⟨_, rfl⟩
  have b1 : 0 ≤ x1 ∧ x1 < 16 := by rw [← hx1]; exact ⟨Int.emod_nonneg _ (by omega), Int.emod_lt_of_pos _ (by omega)⟩
  have y1 : im % 4294967296 / 2 % 16 = x1 := by rw [← hx1]; omega
  have z1 : 0 ≤ im % 4294967296 / 2 ∧ im % 4294967296 / 2 < 4294967296 := by omega
  obtain ⟨x2, hx2⟩ : ∃ x, im / 32 % 64 = x := ⟨_, rfl⟩
  have b2 : 0 ≤ x2 ∧ x2 < 64 := by rw [← hx2]; exact ⟨Int.emod_nonneg _ (by omega), Int.emod_lt_of_pos _ (by omega)⟩
  have y2 : im % 4294967296 / 32 % 64 = x2 := by rw [← hx2]; omega
  have z2 : 0 ≤ im % 4294967296 / 32 ∧ im % 4294967296 / 32 < 4294967296 := by omega
  obtain ⟨x3, hx3⟩ : ∃ x, im / 4096 % 2 = x := ⟨_, rfl⟩
  have b3 : 0 ≤ x3 ∧ x3 < 2 := by rw [← hx3]; exact ⟨Int.emod_nonneg _ (by omega), Int.emod_lt_of_pos _ (by omega)⟩
  have y3 : im % 4294967296 / 4096 % 2 = x3 := by rw [← hx3]; omega
  have z3 : 0 ≤ im % 4294967296 / 4096 ∧ im % 4294967296 / 4096 < 4294967296 := by omega
  rw [hx0, hx1, hx2, hx3]
  simp only [VB]
  rw [or32 12 3 a b 4096 8 rfl rfl (by omega) (by omega) (by omega) (by omega) (by omega) (by omega) (ext _ (a) 0 0 4096 8 (by omega) (by omega) (by omega) (by omega) (by omega) (by omega))]
  rw [or_piece 15 5 _ (rs1 % 4294967296) 31 32768 32 rfl rfl rfl (by omega) (by omega) (by omega) (by omega) (by omega) (by omega) (by omega) (by omega) (ext _ (a + b * 4096) 0 0 32768 32 (by omega) (by omega) (by omega) (by omega) (by omega) (by omega)), mrs1]
  rw [or_piece 20 5 _ (rs2 % 4294967296) 31 1048576 32 rfl rfl rfl (by omega) (by omega) (by omega) (by omega) (by omega) (by omega) (by omega) (by omega) (ext _ (a + b * 4096 + rs1 * 32768) 0 0 1048576 32 (by omega) (by omega) (by omega) (by omega) (by omega) (by omega)), mrs2]
  rw [or_piece 7 1 _ (im % 4294967296 / 2048) 1 128 2 rfl rfl rfl (by omega) (by omega) (by omega) z0.1 z0.2 (by rw [y0]; omega) (by rw [y0]; omega) (by omega) (ext _ (a) 0 (b * 16 + rs1 * 128 + rs2 * 4096) 128 2 (by omega) (by omega) (by omega) (by omega) (by omega) (by omega)), y0]
  rw [or_piece 8 4 _ (im % 4294967296 / 2) 15 256 16 rfl rfl rfl (by omega) (by omega) (by omega) z1.1 z1.2 (by rw [y1]; omega) (by rw [y1]; omega) (by omega) (ext _ (a + x0 * 128) 0 (b + rs1 * 8 + rs2 * 256) 256 16 (by omega) (by omega) (by omega) (by omega) (by omega) (by omega)), y1]
  rw [or_piece 25 6 _ (im % 4294967296 / 32) 63 33554432 64 rfl rfl rfl (by omega) (by omega) (by omega) z2.1 z2.2 (by rw [y2]; omega) (by rw [y2]; omega) (by omega) (ext _ (a + b * 4096 + rs1 * 32768 + rs2 * 1048576 + x0 * 128 + x1 * 256) 0 0 33554432 64 (by omega) (by omega) (by omega) (by omega) (by omega) (by omega)), y2]
  rw [or_piece 31 1 _ (im % 4294967296 / 4096) 1 2147483648 2 rfl rfl rfl (by omega) (by omega) (by omega) z3.1 z3.2 (by rw [y3]; omega) (by rw [y3]; omega) (by omega) (ext _ (a + b * 4096 + rs1 * 32768 + rs2 * 1048576 + x0 * 128 + x1 * 256 + x2 * 33554432) 0 0 2147483648 2 (by omega) (by omega) (by omega) (by omega) (by omega) (by omega)), y3]
theorem VB_has (a b c rd rs1 rs2 im v : Int) (ha : 0 ≤ a ∧ a < 128) (hb : 0 ≤ b ∧ b < 8) (hc : 0 ≤ c ∧ c < 64) (hrs1 : 0 ≤ rs1 ∧ rs1 ≤ 31) (hrs2 : 0 ≤ rs2 ∧ rs2 ≤ 31) (him : -4096 ≤ im ∧ im ≤ 4094 ∧ im % 2 = 0) (hv : v = a + b * 4096 + rs1 * 32768 + rs2 * 1048576 + im / 2048 % 2 * 128 + im / 2 % 16 * 256 + im / 32 % 64 * 33554432 + im / 4096 % 2 * 2147483648) :
    (0 ≤ v ∧ v < 4294967296) ∧ v % 128 = a ∧ v / 4096 % 8 = b ∧ v / 32768 % 32 = rs1 ∧ v / 1048576 % 32 = rs2 ∧ (if (v / 128 % 2 * 2048 + v / 256 % 16 * 2 + v / 33554432 % 64 * 32 + v / 2147483648 % 2 * 4096) / 4096 = 1 then v / 128 % 2 * 2048 + v / 256 % 16 * 2 + v / 33554432 % 64 * 32 + v / 2147483648 % 2 * 4096 - 8192 else v / 128 % 2 * 2048 + v / 256 % 16 * 2 + v / 33554432 % 64 * 32 + v / 2147483648 % 2 * 4096) = im := by
  obtain ⟨x0, hx0⟩ : ∃ x, im / 2048 % 2 = x := ⟨_, rfl⟩
  obtain ⟨x1, hx1⟩ : ∃ x, im / 2 % 16 = x := ⟨_, rfl⟩
  obtain ⟨x2, hx2⟩ : ∃ x, im / 32 % 64 = x := ⟨_, rfl⟩
  obtain ⟨x3, hx3⟩ : ∃ x, im / 4096 % 2 = x := ⟨_, rfl⟩
  rw [hx0, hx1, hx2, hx3] at hv
  have b0 : 0 ≤ x0 ∧ x0 < 2 := by rw [← hx0]; exact ⟨Int.emod_nonneg _ (by omega), Int.emod_lt_of_pos _ (by omega)⟩
  have b1 : 0 ≤ x1 ∧ x1 < 16 := by rw [← hx1]; exact ⟨Int.emod_nonneg _ (by omega), Int.emod_lt_of_pos _ (by omega)⟩
  have b2 : 0 ≤ x2 ∧ x2 < 64 := by rw [← hx2]; exact ⟨Int.emod_nonneg _ (by omega), Int.emod_lt_of_pos _ (by omega)⟩
  have b3 : 0 ≤ x3 ∧ x3 < 2 := by rw [← hx3]; exact ⟨Int.emod_nonneg _ (by omega), Int.emod_lt_of_pos _ (by omega)⟩
  have keys : True := trivial
  refine ⟨?_, ?_, ?_, ?_, ?_, ?_⟩
  rotate_left 5
  · have e0 : v / 128 % 2 = x0 := ext v (a) x0 (b * 16 + rs1 * 128 + rs2 * 4096 + x1 + x2 * 131072 + x3 * 8388608) 128 2 (by rw [hv]; omega) (by omega) (by omega) (by omega) (by omega) (by omega)
    have e1 : v / 256 % 16 = x1 := ext v (a + x0 * 128) x1 (b + rs1 * 8 + rs2 * 256 + x2 * 8192 + x3 * 524288) 256 16 (by rw [hv]; omega) (by omega) (by omega) (by omega) (by omega) (by omega)
    have e2 : v / 33554432 % 64 = x2 := ext v (a + b * 4096 + rs1 * 32768 + rs2 * 1048576 + x0 * 128 + x1 * 256) x2 (x3) 33554432 64 (by rw [hv]; omega) (by omega) (by omega) (by omega) (by omega) (by omega)
    have e3 : v / 2147483648 % 2 = x3 := ext v (a + b * 4096 + rs1 * 32768 + rs2 * 1048576 + x0 * 128 + x1 * 256 + x2 * 33554432) x3 0 2147483648 2 (by rw [hv]; omega) (by omega) (by omega) (by omega) (by omega) (by omega)
    rw [e0, e1, e2, e3]
    clear hv e0 e1 e2 e3
    split <;> omega
  all_goals clear him hx0 hx1 hx2 hx3
  · omega
  · have := ext v 0 a (b * 32 + rs1 * 256 + rs2 * 8192 + x0 + x1 * 2 + x2 * 262144 + x3 * 16777216) 1 128 (by rw [hv]; omega) (by omega) (by omega) (by omega) (by omega) (by omega)
    omega
  · exact ext v (a + x0 * 128 + x1 * 256) b (rs1 + rs2 * 32 + x2 * 1024 + x3 * 65536) 4096 8 (by rw [hv]; omega) (by omega) (by omega) (by omega) (by omega) (by omega)
  · exact ext v (a + b * 4096 + x0 * 128 + x1 * 256) rs1 (rs2 + x2 * 32 + x3 * 2048) 32768 32 (by rw [hv]; omega) (by omega) (by omega) (by omega) (by omega) (by omega)
  · exact ext v (a + b * 4096 + rs1 * 32768 + x0 * 128 + x1 * 256) rs2 (x2 + x3 * 64) 1048576 32 (by rw [hv]; omega) (by omega) (by omega) (by omega) (by omega) (by omega)
theorem VU_sum (a b c rd rs1 rs2 im : Int) (ha : 0 ≤ a ∧ a < 128) (hb : 0 ≤ b ∧ b < 8) (hc : 0 ≤ c ∧ c < 64) (hrd : 0 ≤ rd ∧ rd ≤ 31) :
    VU a b c rd rs1 rs2 im 2 = a + rd * 128 + im % 1048576 * 4096 := by
  have mrd : rd % 4294967296 % 32 = rd := by omega
  obtain ⟨x0, hx0⟩ : ∃ x, im % 1048576 = x := ⟨_, rfl⟩
  have b0 : 0 ≤ x0 ∧ x0 < 1048576 := by rw [← hx0]; exact ⟨Int.emod_nonneg _ (by omega), Int.emod_lt_of_pos _ (by omega)⟩
  have y0 : im % 4294967296 % 1048576 = x0 := by rw [← hx0]; omega
  have z0 : 0 ≤ im % 4294967296 ∧ im % 4294967296 < 4294967296 := by omega
  rw [hx0]
  simp only [VU]
  rw [or_piece 7 5 _ (rd % 4294967296) 31 128 32 rfl rfl rfl (by omega) (by omega) (by omega) (by omega) (by omega) (by omega) (by omega) (by omega) (ext _ (a) 0 0 128 32 (by omega) (by omega) (by omega) (by omega) (by omega) (by omega)), mrd]
  rw [or_piece 12 20 _ (im % 4294967296) 1048575 4096 1048576 rfl rfl rfl (by omega) (by omega) (by omega) z0.1 z0.2 (by rw [y0]; omega) (by rw [y0]; omega) (by omega) (ext _ (a + rd * 128) 0 0 4096 1048576 (by omega) (by omega) (by omega) (by omega) (by omega) (by omega)), y0]
theorem VU_has (a b c rd rs1 rs2 im v : Int) (ha : 0 ≤ a ∧ a < 128) (hb : 0 ≤ b ∧ b < 8) (hc : 0 ≤ c ∧ c < 64) (hrd : 0 ≤ rd ∧ rd ≤ 31) (him : -524288 ≤ im ∧ im ≤ 524287) (hv : v = a + rd * 128 + im % 1048576 * 4096) :
    (0 ≤ v ∧ v < 4294967296) ∧ v % 128 = a ∧ v / 128 % 32 = rd ∧ (if (v / 4096 % 1048576) / 524288 = 1 then v / 4096 % 1048576 - 1048576 else v / 4096 % 1048576) = im := by
  obtain ⟨x0, hx0⟩ : ∃ x, im % 1048576 = x := ⟨_, rfl⟩
  rw [hx0] at hv
  have b0 : 0 ≤ x0 ∧ x0 < 1048576 := by rw [← hx0]; exact ⟨Int.emod_nonneg _ (by omega), Int.emod_lt_of_pos _ (by omega)⟩
  have keys : True := trivial
  refine ⟨?_, ?_, ?_, ?_⟩
  rotate_left 3
  · have e0 : v / 4096 % 1048576 = x0 := ext v (a + rd * 128) x0 0 4096 1048576 (by rw [hv]; omega) (by omega) (by omega) (by omega) (by omega) (by omega)
    rw [e0]
    clear hv e0
    split <;> omega
  all_goals clear him hx0
  · omega
  · have := ext v 0 a (rd + x0 * 32) 1 128 (by rw [hv]; omega) (by omega) (by omega) (by omega) (by omega) (by omega)
    omega
  · exact ext v (a) rd (x0) 128 32 (by rw [hv]; omega) (by omega) (by omega) (by omega) (by omega) (by omega)
theorem VJ_sum (a b c rd rs1 rs2 im : Int) (ha : 0 ≤ a ∧ a < 128) (hb : 0 ≤ b ∧ b < 8) (hc : 0 ≤ c ∧ c < 64) (hrd : 0 ≤ rd ∧ rd ≤ 31) :
    VJ a b c rd rs1 rs2 im 2 = a + rd * 128 + im / 4096 % 256 * 4096 + im / 2048 % 2 * 1048576 + im / 2 % 1024 * 2097152 + im / 1048576 % 2 * 2147483648 := by
  have mrd : rd % 4294967296 % 32 = rd := by omega
  obtain ⟨x0, hx0⟩ : ∃ x, im / 4096 % 256 = x := ⟨_, rfl⟩
  have b0 : 0 ≤ x0 ∧ x0 < 256 := by rw [← hx0]; exact ⟨Int.emod_nonneg _ (by omega), Int.emod_lt_of_pos _ (by omega)⟩
  have y0 : im % 4294967296 / 4096 % 256 = x0 := by rw [← hx0]; omega
  have z0 : 0 ≤ im % 4294967296 / 4096 ∧ im % 4294967296 / 4096 < 4294967296 := by omega
  obtain ⟨x1, hx1⟩ : ∃ x, im / 2048 % 2 = x := ⟨_, rfl⟩
  have b1 : 0 ≤ x1 ∧ x1 < 2 := by rw [← hx1]; exact ⟨Int.emod_nonneg _ (by omega), Int.emod_lt_of_pos _ (by omega)⟩
  have y1 : im % 4294967296 / 2048 % 2 = x1 := by rw [← hx1]; omega
  have z1 : 0 ≤ im % 4294967296 / 2048 ∧ im % 4294967296 / 2048 < 4294967296 := by omega
  obtain ⟨x2, hx2⟩ : ∃ x, im / 2 % 1024 = x := ⟨_, rfl⟩
  have b2 : 0 ≤ x2 ∧ x2 < 1024 := by rw [← hx2]; exact ⟨Int.emod_nonneg _ (by omega), Int.emod_lt_of_pos _ (by omega)⟩
  have y2 : im % 4294967296 / 2 % 1024 = x2 := by rw [← hx2]; omega
  have z2 : 0 ≤ im % 4294967296 / 2 ∧ im % 4294967296 / 2 < 4294967296 := by omega
  obtain ⟨x3, hx3⟩ : ∃ x, im / 1048576 % 2 = x := ⟨_, rfl⟩
  have b3 : 0 ≤ x3 ∧ x3 < 2 := by rw [← hx3]; exact ⟨Int.emod_nonneg _ (by omega), Int.emod_lt_of_pos _ (by omega)⟩
  have y3 : im % 4294967296 / 1048576 % 2 = x3 := by rw [← hx3]; omega
  have z3 : 0 ≤ im % 4294967296 / 1048576 ∧ im % 4294967296 / 1048576 < 4294967296 := by omega
  rw [hx0, hx1, hx2, hx3]
  simp only [VJ]
  rw [or_piece 7 5 _ (rd % 4294967296) 31 128 32 rfl rfl rfl (by omega) (by omega) (by omega) (by omega) (by omega) (by omega) (by omega) (by omega) (ext _ (a) 0 0 128 32 (by omega) (by omega) (by omega) (by omega) (by omega) (by omega)), mrd]
  rw [or_piece 12 8 _ (im % 4294967296 / 4096) 255 4096 256 rfl rfl rfl (by omega) (by omega) (by omega) z0.1 z0.2 (by rw [y0]; omega) (by rw [y0]; omega) (by omega) (ext _ (a + rd * 128) 0 0 4096 256 (by omega) (by omega) (by omega) (by omega) (by omega) (by omega)), y0]
  rw [or_piece 20 1 _ (im % 4294967296 / 2048) 1 1048576 2 rfl rfl rfl (by omega) (by omega) (by omega) z1.1 z1.2 (by rw [y1]; omega) (by rw [y1]; omega) (by omega) (ext _ (a + rd * 128 + x0 * 4096) 0 0 1048576 2 (by omega) (by omega) (by omega) (by omega) (by omega) (by omega)), y1]
  rw [or_piece 21 10 _ (im % 4294967296 / 2) 1023 2097152 1024 rfl rfl rfl (by omega) (by omega) (by omega) z2.1 z2.2 (by rw [y2]; omega) (by rw [y2]; omega) (by omega) (ext _ (a + rd * 128 + x0 * 4096 + x1 * 1048576) 0 0 2097152 1024 (by omega) (by omega) (by omega) (by omega) (by omega) (by omega)), y2]
  rw [or_piece 31 1 _ (im % 4294967296 / 1048576) 1 2147483648 2 rfl rfl rfl (by omega) (by omega) (by omega) z3.1 z3.2 (by rw [y3]; omega) (by rw [y3]; omega) (by omega) (ext _ (a + rd * 128 + x0 * 4096 + x1 * 1048576 + x2 * 2097152) 0 0 2147483648 2 (by omega) (by omega) (by omega) (by omega) (by omega) (by omega)), y3]
theorem VJ_has (a b c rd rs1 rs2 im v : Int) (ha : 0 ≤ a ∧ a < 128) (hb : 0 ≤ b ∧ b < 8) (hc : 0 ≤ c ∧ c < 64) (hrd : 0 ≤ rd ∧ rd ≤ 31) (him : -1048576 ≤ im ∧ im ≤ 1048574 ∧ im % 2 = 0) (hv : v = a + rd * 128 + im / 4096 % 256 * 4096 + im / 2048 % 2 * 1048576 + im / 2 % 1024 * 2097152 + im / 1048576 % 2 * 2147483648) :
    (0 ≤ v ∧ v < 4294967296) ∧ v % 128 = a ∧ v / 128 % 32 = rd ∧ (if (v / 4096 % 256 * 4096 + v / 1048576 % 2 * 2048 + v / 2097152 % 1024 * 2 + v / 2147483648 % 2 * 1048576) / 1048576 = 1 then v / 4096 % 256 * 4096 + v / 1048576 % 2 * 2048 + v / 2097152 % 1024 * 2 + v / 2147483648 % 2 * 1048576 - 2097152 else v / 4096 % 256 * 4096 + v / 1048576 % 2 * 2048 + v / 2097152 % 1024 * 2 + v / 2147483648 % 2 * 1048576) = im := by
  obtain ⟨x0, hx0⟩ : ∃ x, im / 4096 % 256 = x := ⟨_, rfl⟩
  obtain ⟨x1, hx1⟩ : ∃ x, im / 2048 % 2 = x := ⟨_, rfl⟩
  obtain ⟨x2, hx2⟩ : ∃ x, im / 2 % 1024 = x := ⟨_, rfl⟩
  obtain ⟨x3, hx3⟩ : ∃ x, im / 1048576 % 2 = x := ⟨_, rfl⟩
  rw [hx0, hx1, hx2, hx3] at hv
  have b0 : 0 ≤ x0 ∧ x0 < 256 := by rw [← hx0]; exact ⟨Int.emod_nonneg _ (by omega), Int.emod_lt_of_pos _ (by omega)⟩
  have b1 : 0 ≤ x1 ∧ x1 < 2 := by rw [← hx1]; exact ⟨Int.emod_nonneg _ (by omega), Int.emod_lt_of_pos _ (by omega)⟩
  have b2 : 0 ≤ x2 ∧ x2 < 1024 := by rw [← hx2]; exact ⟨Int.emod_nonneg _ (by omega), Int.emod_lt_of_pos _ (by omega)⟩
  have b3 : 0 ≤ x3 ∧ x3 < 2 := by rw [← hx3]; exact ⟨Int.emod_nonneg _ (by omega), Int.emod_lt_of_pos _ (by omega)⟩
  have keys : True := trivial
  refine ⟨?_, ?_, ?_, ?_⟩
  rotate_left 3
  · have e0 : v / 4096 % 256 = x0 := ext v (a + rd * 128) x0 (x1 + x2 * 2 + x3 * 2048) 4096 256 (by rw [hv]; omega) (by omega) (by omega) (by omega) (by omega) (by omega)
    have e1 : v / 1048576 % 2 = x1 := ext v (a + rd * 128 + x0 * 4096) x1 (x2 + x3 * 1024) 1048576 2 (by rw [hv]; omega) (by omega) (by omega) (by omega) (by omega) (by omega)
    have e2 : v / 2097152 % 1024 = x2 := ext v (a + rd * 128 + x0 * 4096 + x1 * 1048576) x2 (x3) 2097152 1024 (by rw [hv]; omega) (by omega) (by omega) (by omega) (by omega) (by omega)
    have e3 : v / 2147483648 % 2 = x3 := ext v (a + rd * 128 + x0 * 4096 + x1 * 1048576 + x2 * 2097152) x3 0 2147483648 2 (by rw [hv]; omega) (by omega) (by omega) (by omega) (by omega) (by omega)
    rw [e0, e1, e2, e3]
    clear hv e0 e1 e2 e3
    split <;> omega
  all_goals clear him hx0 hx1 hx2 hx3
  · omega
  · have := ext v 0 a (rd + x0 * 32 + x1 * 8192 + x2 * 16384 + x3 * 16777216) 1 128 (by rw [hv]; omega) (by omega) (by omega) (by omega) (by omega) (by omega)
    omega
  · exact ext v (a) rd (x0 + x1 * 256 + x2 * 512 + x3 * 524288) 128 32 (by rw [hv]; omega) (by omega) (by omega) (by omega) (by omega) (by omega)
end rv
end Go.Proofs.Ytbcflhpaafpndaa
