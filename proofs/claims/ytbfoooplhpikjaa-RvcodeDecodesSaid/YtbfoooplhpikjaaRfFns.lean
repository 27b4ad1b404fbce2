/- The reference's small functions. -/
import Derived.Test.YtbfoooplhpikjaaRfRow
import Derived.Outline
namespace Go.Proofs.Ytbfoooplhpikjaa
open Go.RowKit
set_option linter.unusedVariables false
namespace rf
/-- may a register be -/
def reg (n : Int) (has : Bool) : Bool := if has then decide (0 ≤ n ∧ n ≤ 31) else decide (n = 0)
/-- may an immediate be, of a form's letter -/
def immOk : Nat → Int → Bool
  | 73, n => decide (-2048 ≤ n ∧ n ≤ 2047)
  | 83, n => decide (-2048 ≤ n ∧ n ≤ 2047)
  | 88, n => decide (0 ≤ n ∧ n ≤ 63)
  | 89, n => decide (0 ≤ n ∧ n ≤ 31)
  | 66, n => decide (-4096 ≤ n ∧ n ≤ 4094 ∧ n.tmod 2 = 0)
  | 85, n => decide (-524288 ≤ n ∧ n ≤ 524287)
  | 74, n => decide (-1048576 ≤ n ∧ n ≤ 1048574 ∧ n.tmod 2 = 0)
  | _, n => decide (n = 0)
end rf
theorem rreg_any (n : Int) (has : Bool) (w : World) : Calls Try.prog 33 #[.int .i64 n, .bool has] w fun e w' => e = .returned (.bool (rf.reg n has)) ∧ w = w' := by
  cases has
  · have hR : rf.reg n false = (n == 0) := by
      unfold rf.reg
      by_cases h : n = 0 <;> simp [h]
    rw [hR]
    clear hR
    go_enter Try.func33, Try.ntmps33
    go_wp2
    go_ret
    exact ⟨rfl, rfl⟩
  · by_cases h : 0 ≤ n ∧ n ≤ 31
    · have hR : rf.reg n true = true := decide_eq_true h
      rw [hR]
      obtain ⟨h1, h2⟩ := h
      clear hR
      go_enter Try.func33, Try.ntmps33
      go_wp2
      go_ret
      exact ⟨rfl, rfl⟩
    · have hR : rf.reg n true = false := decide_eq_false h
      rw [hR]
      have h' : n < 0 ∨ (0 ≤ n ∧ 31 < n) := by omega
      clear hR h
      rcases h' with h | ⟨h1, h⟩
      · go_enter Try.func33, Try.ntmps33
        go_wp2
        go_ret
        exact ⟨rfl, rfl⟩
      · have hd : decide (n ≤ 31) = false := decide_eq_false (by omega)
        go_enter Try.func33, Try.ntmps33
        go_wp2
        go_ret
        exact ⟨rfl, rfl⟩
theorem rabove_X (w : World) : Calls Try.prog 32 #[.string ⟨#[88]⟩] w fun e w' => e = .returned (.int .u64 26) ∧ w = w' := by
  go_enter Try.func32, Try.ntmps32
  go_wp2
  go_ret
  exact ⟨rfl, rfl⟩
theorem rabove_R (w : World) : Calls Try.prog 32 #[.string ⟨#[82]⟩] w fun e w' => e = .returned (.int .u64 25) ∧ w = w' := by
  go_enter Try.func32, Try.ntmps32
  go_wp2
  go_ret
  exact ⟨rfl, rfl⟩
theorem rabove_Y (w : World) : Calls Try.prog 32 #[.string ⟨#[89]⟩] w fun e w' => e = .returned (.int .u64 25) ∧ w = w' := by
  go_enter Try.func32, Try.ntmps32
  go_wp2
  go_ret
  exact ⟨rfl, rfl⟩
namespace rf
/-- some bits of a number, moved to another place -/
def bits (n f m t : Int) : Int := n % 18446744073709551616 / 2 ^ f.toNat % 2 ^ m.toNat * 2 ^ t.toNat % 18446744073709551616 % 4294967296
theorem pow_bd (m : Int) (h : m ≤ 20) : 1 ≤ (2 : Int) ^ m.toNat ∧ (2 : Int) ^ m.toNat ≤ 1048576 := by
  have h1 : 2 ^ m.toNat ≤ 2 ^ 20 := Nat.pow_le_pow_right (by omega) (by omega)
  have h2 := Nat.two_pow_pos m.toNat
  have e : ((2 : Int) ^ m.toNat) = ((2 ^ m.toNat : Nat) : Int) := by simp
  have e20 : (2 : Nat) ^ 20 = 1048576 := rfl
  rw [e20] at h1
  rw [e]
  generalize 2 ^ m.toNat = q at *
  omega
end rf
theorem rbits_any (n f m t : Int) (f0 : 0 ≤ f ∧ f ≤ 20) (m0 : 1 ≤ m ∧ m ≤ 20) (t0 : 0 ≤ t ∧ t ≤ 31) (w : World) : Calls Try.prog 42 #[.int .i64 n, .int .i64 f, .int .i64 m, .int .i64 t] w fun e w' => e = .returned (.int .u32 (rf.bits n f m t)) ∧ w = w' := by
  obtain ⟨f0, f1⟩ := f0
  obtain ⟨m0, m1⟩ := m0
  obtain ⟨t0, t1⟩ := t0
  obtain ⟨p0, p1⟩ := rf.pow_bd m m1
  unfold rf.bits
  obtain ⟨u, hu⟩ : ∃ u, n % 18446744073709551616 = u := ⟨_, rfl⟩
  have hw : IntKind.u64.wrap n = u := by rw [← hu]; exact IntKind.wrap_u64 n
  have u0 : 0 ≤ u ∧ u < 18446744073709551616 := by rw [← hu]; exact ⟨Int.emod_nonneg _ (by omega), Int.emod_lt_of_pos _ (by omega)⟩
  rw [hu]
  clear hu
  obtain ⟨u0, u1⟩ := u0
  have n0 : 0 ≤ u / 2 ^ f.toNat := Int.ediv_nonneg u0 (Int.le_of_lt (Int.pow_pos (by omega)))
  obtain ⟨q, hq⟩ : ∃ q : Int, 2 ^ m.toNat = q := ⟨_, rfl⟩
  have hq2 : IntKind.u64.wrap (2 ^ m.toNat) = q := by rw [hq, IntKind.wrap_u64]; omega
  rw [hq] at p0 p1 ⊢
  clear hq
  go_enter Try.func42, Try.ntmps42
  go_wp2
  go_ret
  exact ⟨bl.ret1 (bl.int_eq (by rw [IntKind.wrap_u64])), rfl⟩
theorem rfield_any (v f m : Int) (f0 : 0 ≤ f ∧ f ≤ 31) (m0 : 1 ≤ m ∧ m ≤ 20) (v0 : 0 ≤ v ∧ v < 4294967296) (w : World) : Calls Try.prog 41 #[.int .u32 v, .int .u64 f, .int .u64 m] w fun e w' => e = .returned (.int .i64 (v / 2 ^ f.toNat % 2 ^ m.toNat)) ∧ w = w' := by
  obtain ⟨f0, f1⟩ := f0
  obtain ⟨m0, m1⟩ := m0
  obtain ⟨v0, v1⟩ := v0
  obtain ⟨p0, p1⟩ := rf.pow_bd m m1
  have n0 : 0 ≤ v / 2 ^ f.toNat := Int.ediv_nonneg v0 (Int.le_of_lt (Int.pow_pos (by omega)))
  obtain ⟨q, hq⟩ : ∃ q : Int, 2 ^ m.toNat = q := ⟨_, rfl⟩
  have hq2 : 2 ^ m.toNat % 4294967296 = q := by rw [hq]; omega
  rw [hq] at p0 p1 ⊢
  have HQ := bl.hid hq
  have q0 : ¬ q = 0 := by omega
  clear hq
  go_enter Try.func41, Try.ntmps41
  go_wp2
  have b0 := Int.emod_nonneg (v / 2 ^ f.toNat) (show q ≠ 0 by omega)
  have b1 := Int.emod_lt_of_pos (v / 2 ^ f.toNat) (show 0 < q by omega)
  go_ret
  exact ⟨bl.ret1 (bl.int_eq (IntWalk.wrap64_in _ (by omega))), rfl⟩
end Go.Proofs.Ytbfoooplhpikjaa
