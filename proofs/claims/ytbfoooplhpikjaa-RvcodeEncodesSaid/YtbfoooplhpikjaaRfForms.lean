/- The reference's functions of a form, form by form. -/
import Derived.Test.YtbfoooplhpikjaaRfFns
import Derived.Test.YtbfoooplhpikjaaRvHas
namespace Go.Proofs.Ytbfoooplhpikjaa
open Go.RowKit
set_option linter.unusedVariables false
namespace rf
/-- a number at whose top bit c stands, signed -/
def sg (c n : Int) : Int := if c ≤ n then n - 2 * c else n
/-- an immediate's bits in a word -/
def immW : Nat → Int → Int
  | 73, n => bits n 0 12 20
  | 88, n => bits n 0 6 20
  | 89, n => bits n 0 5 20
  | 83, n => (bits n 0 5 7 + bits n 5 7 25) % 4294967296
  | 66, n => (bits n 11 1 7 + bits n 1 4 8 + bits n 5 6 25 + bits n 12 1 31) % 4294967296
  | 85, n => bits n 0 20 12
  | 74, n => (bits n 12 8 12 + bits n 11 1 20 + bits n 1 10 21 + bits n 20 1 31) % 4294967296
  | _, _ => 0
/-- the immediate of a word -/
def toldV : Nat → Int → Int
  | 73, v => sg 2048 (v / 1048576 % 4096)
  | 88, v => v / 1048576 % 64
  | 89, v => v / 1048576 % 32
  | 83, v => sg 2048 (v / 128 % 32 + v / 33554432 % 128 * 32)
  | 66, v => sg 4096 (v / 256 % 16 * 2 + v / 33554432 % 64 * 32 + v / 128 % 2 * 2048 + v / 2147483648 % 2 * 4096)
  | 85, v => sg 524288 (v / 4096 % 1048576)
  | 74, v => sg 1048576 (v / 2097152 % 1024 * 2 + v / 1048576 % 2 * 2048 + v / 4096 % 256 * 4096 + v / 2147483648 % 2 * 1048576)
  | _, _ => 0
end rf
theorem rfield_at (v f m F M : Int) (hF : (2 : Int) ^ f.toNat = F) (hM : (2 : Int) ^ m.toNat = M) (f0 : 0 ≤ f ∧ f ≤ 31) (m0 : 1 ≤ m ∧ m ≤ 20) (v0 : 0 ≤ v ∧ v < 4294967296) (w : World) : Calls Try.prog 41 #[.int .u32 v, .int .u64 f, .int .u64 m] w fun e w' => e = .returned (.int .i64 (v / F % M)) ∧ w = w' := by
  have := rfield_any v f m f0 m0 v0 w
  rwa [hF, hM] at this
theorem rsigned_12 (n : Int) (n0 : 0 ≤ n) (n1 : n < 4096) (w : World) : Calls Try.prog 43 #[.int .i64 n, .int .u64 12] w fun e w' => e = .returned (.int .i64 (rf.sg 2048 n)) ∧ w = w' := by
  by_cases h : 2048 ≤ n
  · have hR : rf.sg 2048 n = n - 4096 := by unfold rf.sg; rw [if_pos h]; omega
    rw [hR]
    clear hR
    go_enter Try.func43, Try.ntmps43
    go_wp2
    go_ret
    exact ⟨rfl, rfl⟩
  · have hR : rf.sg 2048 n = n := by unfold rf.sg; rw [if_neg h]
    rw [hR]
    clear hR
    go_enter Try.func43, Try.ntmps43
    go_wp2
    go_ret
    exact ⟨rfl, rfl⟩
theorem rsigned_13 (n : Int) (n0 : 0 ≤ n) (n1 : n < 8192) (w : World) : Calls Try.prog 43 #[.int .i64 n, .int .u64 13] w fun e w' => e = .returned (.int .i64 (rf.sg 4096 n)) ∧ w = w' := by
  by_cases h : 4096 ≤ n
  · have hR : rf.sg 4096 n = n - 8192 := by unfold rf.sg; rw [if_pos h]; omega
    rw [hR]
    clear hR
    go_enter Try.func43, Try.ntmps43
    go_wp2
    go_ret
    exact ⟨rfl, rfl⟩
  · have hR : rf.sg 4096 n = n := by unfold rf.sg; rw [if_neg h]
    rw [hR]
    clear hR
    go_enter Try.func43, Try.ntmps43
    go_wp2
    go_ret
    exact ⟨rfl, rfl⟩
theorem rsigned_20 (n : Int) (n0 : 0 ≤ n) (n1 : n < 1048576) (w : World) : Calls Try.prog 43 #[.int .i64 n, .int .u64 20] w fun e w' => e = .returned (.int .i64 (rf.sg 524288 n)) ∧ w = w' := by
  by_cases h : 524288 ≤ n
  · have hR : rf.sg 524288 n = n - 1048576 := by unfold rf.sg; rw [if_pos h]; omega
    rw [hR]
    clear hR
    go_enter Try.func43, Try.ntmps43
    go_wp2
    go_ret
    exact ⟨rfl, rfl⟩
  · have hR : rf.sg 524288 n = n := by unfold rf.sg; rw [if_neg h]
    rw [hR]
    clear hR
    go_enter Try.func43, Try.ntmps43
    go_wp2
    go_ret
    exact ⟨rfl, rfl⟩
theorem rsigned_21 (n : Int) (n0 : 0 ≤ n) (n1 : n < 2097152) (w : World) : Calls Try.prog 43 #[.int .i64 n, .int .u64 21] w fun e w' => e = .returned (.int .i64 (rf.sg 1048576 n)) ∧ w = w' := by
  by_cases h : 1048576 ≤ n
  · have hR : rf.sg 1048576 n = n - 2097152 := by unfold rf.sg; rw [if_pos h]; omega
    rw [hR]
    clear hR
    go_enter Try.func43, Try.ntmps43
    go_wp2
    go_ret
    exact ⟨rfl, rfl⟩
  · have hR : rf.sg 1048576 n = n := by unfold rf.sg; rw [if_neg h]
    rw [hR]
    clear hR
    go_enter Try.func43, Try.ntmps43
    go_wp2
    go_ret
    exact ⟨rfl, rfl⟩
theorem rimmediate_R (n : Int) (w : World) : Calls Try.prog 34 #[.string ⟨#[82]⟩, .int .i64 n] w fun e w' => e = .returned (.bool (rf.immOk 82 n)) ∧ w = w' := by
  have hR : rf.immOk 82 n = (n == 0) := by
    show decide (n = 0) = _
    by_cases h : n = 0 <;> simp [h]
  rw [hR]
  clear hR
  go_enter Try.func34, Try.ntmps34
  go_wp2
  go_ret
  exact ⟨rfl, rfl⟩
theorem rimm_R (n : Int) (w : World) : Calls Try.prog 31 #[.string ⟨#[82]⟩, .int .i64 n] w fun e w' => e = .returned (.int .u32 (rf.immW 82 n)) ∧ w = w' := by
  go_enter Try.func31, Try.ntmps31
  go_wp2
  go_ret
  exact ⟨rfl, rfl⟩
theorem rtold_R (v : Int) (hv : 0 ≤ v ∧ v < 4294967296) (w : World) : Calls Try.prog 40 #[.string ⟨#[82]⟩, .int .u32 v] w fun e w' => e = .returned (.int .i64 (rf.toldV 82 v)) ∧ w = w' := by
  go_enter Try.func40, Try.ntmps40
  go_wp2
  go_ret
  exact ⟨rfl, rfl⟩
theorem rimmediate_I (n : Int) (w : World) : Calls Try.prog 34 #[.string ⟨#[73]⟩, .int .i64 n] w fun e w' => e = .returned (.bool (rf.immOk 73 n)) ∧ w = w' := by
  by_cases h : -2048 ≤ n ∧ n ≤ 2047
  · have hR : rf.immOk 73 n = true := decide_eq_true h
    rw [hR]
    clear hR
    obtain ⟨h1, h2⟩ := h
    go_enter Try.func34, Try.ntmps34
    go_wp2
    go_ret
    exact ⟨rfl, rfl⟩
  · have hR : rf.immOk 73 n = false := decide_eq_false h
    rw [hR]
    clear hR
    by_cases h1 : n < -2048
    · clear h
      go_enter Try.func34, Try.ntmps34
      go_wp2
      go_ret
      exact ⟨rfl, rfl⟩
    · have hd : decide (n ≤ 2047) = false := decide_eq_false (by omega)
      have h0 : -2048 ≤ n := by omega
      have h2 : 2047 < n := by omega
      clear h h1
      go_enter Try.func34, Try.ntmps34
      go_wp2
      go_ret
      exact ⟨rfl, rfl⟩
theorem rimm_I (n : Int) (w : World) : Calls Try.prog 31 #[.string ⟨#[73]⟩, .int .i64 n] w fun e w' => e = .returned (.int .u32 (rf.immW 73 n)) ∧ w = w' := by
  go_enter Try.func31, Try.ntmps31
  go_wp2_with fail
  refine (rbits_any _ _ _ _ (by omega) (by omega) (by omega) _).mono ?_
  rintro e w' ⟨rfl, rfl⟩
  go_wp2
  go_ret
  exact ⟨rfl, rfl⟩
theorem rtold_I (v : Int) (hv : 0 ≤ v ∧ v < 4294967296) (w : World) : Calls Try.prog 40 #[.string ⟨#[73]⟩, .int .u32 v] w fun e w' => e = .returned (.int .i64 (rf.toldV 73 v)) ∧ w = w' := by
  simp only [rf.toldV]
  have hF0 := fun w => rfield_at v 20 12 1048576 4096 (by decide) (by decide) (by omega) (by omega) hv w
  obtain ⟨x0, hx0⟩ : ∃ x, v / 1048576 % 4096 = x := ⟨_, rfl⟩
  have b0 : 0 ≤ x0 := by rw [← hx0]; exact Int.emod_nonneg _ (by omega)
  have c0 : x0 < 4096 := by rw [← hx0]; exact Int.emod_lt_of_pos _ (by omega)
  rw [hx0] at hF0 ⊢
  have HF0 := bl.hid hF0
  clear hx0 hF0
  clear hv
  go_enter Try.func40, Try.ntmps40
  go_wp2_with fail
  refine (HF0.out _).mono ?_
  rintro e w' ⟨rfl, rfl⟩
  go_wp2_with fail
  refine (rsigned_12 _ (by omega) (by omega) _).mono ?_
  rintro e w' ⟨rfl, rfl⟩
  go_wp2
  go_ret
  exact ⟨rfl, rfl⟩
theorem rimmediate_X (n : Int) (w : World) : Calls Try.prog 34 #[.string ⟨#[88]⟩, .int .i64 n] w fun e w' => e = .returned (.bool (rf.immOk 88 n)) ∧ w = w' := by
  by_cases h : 0 ≤ n ∧ n ≤ 63
  · have hR : rf.immOk 88 n = true := decide_eq_true h
    rw [hR]
    clear hR
    obtain ⟨h1, h2⟩ := h
    go_enter Try.func34, Try.ntmps34
    go_wp2
    go_ret
    exact ⟨rfl, rfl⟩
  · have hR : rf.immOk 88 n = false := decide_eq_false h
    rw [hR]
    clear hR
    by_cases h1 : n < 0
    · clear h
      go_enter Try.func34, Try.ntmps34
      go_wp2
      go_ret
      exact ⟨rfl, rfl⟩
    · have hd : decide (n ≤ 63) = false := decide_eq_false (by omega)
      have h0 : 0 ≤ n := by omega
      have h2 : 63 < n := by omega
      clear h h1
      go_enter Try.func34, Try.ntmps34
      go_wp2
      go_ret
      exact ⟨rfl, rfl⟩
theorem rimm_X (n : Int) (w : World) : Calls Try.prog 31 #[.string ⟨#[88]⟩, .int .i64 n] w fun e w' => e = .returned (.int .u32 (rf.immW 88 n)) ∧ w = w' := by
  go_enter Try.func31, Try.ntmps31
  go_wp2_with fail
  refine (rbits_any _ _ _ _ (by omega) (by omega) (by omega) _).mono ?_
  rintro e w' ⟨rfl, rfl⟩
  go_wp2
  go_ret
  exact ⟨rfl, rfl⟩
theorem rtold_X (v : Int) (hv : 0 ≤ v ∧ v < 4294967296) (w : World) : Calls Try.prog 40 #[.string ⟨#[88]⟩, .int .u32 v] w fun e w' => e = .returned (.int .i64 (rf.toldV 88 v)) ∧ w = w' := by
  simp only [rf.toldV]
  have hF0 := fun w => rfield_at v 20 6 1048576 64 (by decide) (by decide) (by omega) (by omega) hv w
  obtain ⟨x0, hx0⟩ : ∃ x, v / 1048576 % 64 = x := ⟨_, rfl⟩
  have b0 : 0 ≤ x0 := by rw [← hx0]; exact Int.emod_nonneg _ (by omega)
  have c0 : x0 < 64 := by rw [← hx0]; exact Int.emod_lt_of_pos _ (by omega)
  rw [hx0] at hF0 ⊢
  have HF0 := bl.hid hF0
  clear hx0 hF0
  clear hv
  go_enter Try.func40, Try.ntmps40
  go_wp2_with fail
  refine (HF0.out _).mono ?_
  rintro e w' ⟨rfl, rfl⟩
  go_wp2
  go_ret
  exact ⟨rfl, rfl⟩
theorem rimmediate_Y (n : Int) (w : World) : Calls Try.prog 34 #[.string ⟨#[89]⟩, .int .i64 n] w fun e w' => e = .returned (.bool (rf.immOk 89 n)) ∧ w = w' := by
  by_cases h : 0 ≤ n ∧ n ≤ 31
  · have hR : rf.immOk 89 n = true := decide_eq_true h
    rw [hR]
    clear hR
    obtain ⟨h1, h2⟩ := h
    go_enter Try.func34, Try.ntmps34
    go_wp2
    go_ret
    exact ⟨rfl, rfl⟩
  · have hR : rf.immOk 89 n = false := decide_eq_false h
    rw [hR]
    clear hR
    by_cases h1 : n < 0
    · clear h
      go_enter Try.func34, Try.ntmps34
      go_wp2
      go_ret
      exact ⟨rfl, rfl⟩
    · have hd : decide (n ≤ 31) = false := decide_eq_false (by omega)
      have h0 : 0 ≤ n := by omega
      have h2 : 31 < n := by omega
      clear h h1
      go_enter Try.func34, Try.ntmps34
      go_wp2
      go_ret
      exact ⟨rfl, rfl⟩
theorem rimm_Y (n : Int) (w : World) : Calls Try.prog 31 #[.string ⟨#[89]⟩, .int .i64 n] w fun e w' => e = .returned (.int .u32 (rf.immW 89 n)) ∧ w = w' := by
  go_enter Try.func31, Try.ntmps31
  go_wp2_with fail
  refine (rbits_any _ _ _ _ (by omega) (by omega) (by omega) _).mono ?_
  rintro e w' ⟨rfl, rfl⟩
  go_wp2
  go_ret
  exact ⟨rfl, rfl⟩
theorem rtold_Y (v : Int) (hv : 0 ≤ v ∧ v < 4294967296) (w : World) : Calls Try.prog 40 #[.string ⟨#[89]⟩, .int .u32 v] w fun e w' => e = .returned (.int .i64 (rf.toldV 89 v)) ∧ w = w' := by
  simp only [rf.toldV]
  have hF0 := fun w => rfield_at v 20 5 1048576 32 (by decide) (by decide) (by omega) (by omega) hv w
  obtain ⟨x0, hx0⟩ : ∃ x, v / 1048576 % 32 = x := ⟨_, rfl⟩
  have b0 : 0 ≤ x0 := by rw [← hx0]; exact Int.emod_nonneg _ (by omega)
  have c0 : x0 < 32 := by rw [← hx0]; exact Int.emod_lt_of_pos _ (by omega)
  rw [hx0] at hF0 ⊢
  have HF0 := bl.hid hF0
  clear hx0 hF0
  clear hv
  go_enter Try.func40, Try.ntmps40
  go_wp2_with fail
  refine (HF0.out _).mono ?_
  rintro e w' ⟨rfl, rfl⟩
  go_wp2
  go_ret
  exact ⟨rfl, rfl⟩
theorem rimmediate_S (n : Int) (w : World) : Calls Try.prog 34 #[.string ⟨#[83]⟩, .int .i64 n] w fun e w' => e = .returned (.bool (rf.immOk 83 n)) ∧ w = w' := by
  by_cases h : -2048 ≤ n ∧ n ≤ 2047
  · have hR : rf.immOk 83 n = true := decide_eq_true h
    rw [hR]
    clear hR
    obtain ⟨h1, h2⟩ := h
    go_enter Try.func34, Try.ntmps34
    go_wp2
    go_ret
    exact ⟨rfl, rfl⟩
  · have hR : rf.immOk 83 n = false := decide_eq_false h
    rw [hR]
    clear hR
    by_cases h1 : n < -2048
    · clear h
      go_enter Try.func34, Try.ntmps34
      go_wp2
      go_ret
      exact ⟨rfl, rfl⟩
    · have hd : decide (n ≤ 2047) = false := decide_eq_false (by omega)
      have h0 : -2048 ≤ n := by omega
      have h2 : 2047 < n := by omega
      clear h h1
      go_enter Try.func34, Try.ntmps34
      go_wp2
      go_ret
      exact ⟨rfl, rfl⟩
theorem rimm_S (n : Int) (w : World) : Calls Try.prog 31 #[.string ⟨#[83]⟩, .int .i64 n] w fun e w' => e = .returned (.int .u32 (rf.immW 83 n)) ∧ w = w' := by
  go_enter Try.func31, Try.ntmps31
  go_wp2_with fail
  refine (rbits_any _ _ _ _ (by omega) (by omega) (by omega) _).mono ?_
  rintro e w' ⟨rfl, rfl⟩
  go_wp2_with fail
  refine (rbits_any _ _ _ _ (by omega) (by omega) (by omega) _).mono ?_
  rintro e w' ⟨rfl, rfl⟩
  go_wp2
  go_ret
  exact ⟨bl.ret1 (bl.int_eq (by simp only [rf.immW] <;> omega)), rfl⟩
theorem rtold_S (v : Int) (hv : 0 ≤ v ∧ v < 4294967296) (w : World) : Calls Try.prog 40 #[.string ⟨#[83]⟩, .int .u32 v] w fun e w' => e = .returned (.int .i64 (rf.toldV 83 v)) ∧ w = w' := by
  simp only [rf.toldV]
  have hF0 := fun w => rfield_at v 7 5 128 32 (by decide) (by decide) (by omega) (by omega) hv w
  obtain ⟨x0, hx0⟩ : ∃ x, v / 128 % 32 = x := ⟨_, rfl⟩
  have b0 : 0 ≤ x0 := by rw [← hx0]; exact Int.emod_nonneg _ (by omega)
  have c0 : x0 < 32 := by rw [← hx0]; exact Int.emod_lt_of_pos _ (by omega)
  rw [hx0] at hF0 ⊢
  have HF0 := bl.hid hF0
  clear hx0 hF0
  have hF1 := fun w => rfield_at v 25 7 33554432 128 (by decide) (by decide) (by omega) (by omega) hv w
  obtain ⟨x1, hx1⟩ : ∃ x, v / 33554432 % 128 = x := ⟨_, rfl⟩
  have b1 : 0 ≤ x1 := by rw [← hx1]; exact Int.emod_nonneg _ (by omega)
  have c1 : x1 < 128 := by rw [← hx1]; exact Int.emod_lt_of_pos _ (by omega)
  rw [hx1] at hF1 ⊢
  have HF1 := bl.hid hF1
  clear hx1 hF1
  clear hv
  go_enter Try.func40, Try.ntmps40
  go_wp2_with fail
  refine (HF0.out _).mono ?_
  rintro e w' ⟨rfl, rfl⟩
  go_wp2_with fail
  refine (HF1.out _).mono ?_
  rintro e w' ⟨rfl, rfl⟩
  go_wp2_with fail
  refine (rsigned_12 _ (by omega) (by omega) _).mono ?_
  rintro e w' ⟨rfl, rfl⟩
  go_wp2
  go_ret
  exact ⟨rfl, rfl⟩
theorem rimmediate_B (n : Int) (w : World) : Calls Try.prog 34 #[.string ⟨#[66]⟩, .int .i64 n] w fun e w' => e = .returned (.bool (rf.immOk 66 n)) ∧ w = w' := by
  by_cases h : -4096 ≤ n ∧ n ≤ 4094 ∧ n.tmod 2 = 0
  · have hR : rf.immOk 66 n = true := decide_eq_true h
    rw [hR]
    clear hR
    obtain ⟨h1, h2, h3⟩ := h
    have h4 : (n.tmod 2 == 0) = true := by simpa using h3
    clear h3
    go_enter Try.func34, Try.ntmps34
    go_wp2
    go_ret
    exact ⟨rfl, rfl⟩
  · have hR : rf.immOk 66 n = false := decide_eq_false h
    rw [hR]
    clear hR
    by_cases h1 : n < -4096
    · clear h
      go_enter Try.func34, Try.ntmps34
      go_wp2
      go_ret
      exact ⟨rfl, rfl⟩
    · by_cases h2 : 4094 < n
      · clear h
        have hd : decide (n ≤ 4094) = false := decide_eq_false (by omega)
        have h0 : -4096 ≤ n := by omega
        clear h1
        go_enter Try.func34, Try.ntmps34
        go_wp2
        go_ret
        exact ⟨rfl, rfl⟩
      · have h4 : (n.tmod 2 == 0) = false := by cases hq : n.tmod 2 == 0 with | false => rfl | true => exact absurd ⟨by omega, by omega, by simpa using hq⟩ h
        have h0 : -4096 ≤ n := by omega
        have h5 : n ≤ 4094 := by omega
        clear h h1 h2
        go_enter Try.func34, Try.ntmps34
        go_wp2
        go_ret
        exact ⟨rfl, rfl⟩
theorem rimm_B (n : Int) (w : World) : Calls Try.prog 31 #[.string ⟨#[66]⟩, .int .i64 n] w fun e w' => e = .returned (.int .u32 (rf.immW 66 n)) ∧ w = w' := by
  go_enter Try.func31, Try.ntmps31
  go_wp2_with fail
  refine (rbits_any _ _ _ _ (by omega) (by omega) (by omega) _).mono ?_
  rintro e w' ⟨rfl, rfl⟩
  go_wp2_with fail
  refine (rbits_any _ _ _ _ (by omega) (by omega) (by omega) _).mono ?_
  rintro e w' ⟨rfl, rfl⟩
  go_wp2_with fail
  refine (rbits_any _ _ _ _ (by omega) (by omega) (by omega) _).mono ?_
  rintro e w' ⟨rfl, rfl⟩
  go_wp2_with fail
  refine (rbits_any _ _ _ _ (by omega) (by omega) (by omega) _).mono ?_
  rintro e w' ⟨rfl, rfl⟩
  go_wp2
  go_ret
  exact ⟨bl.ret1 (bl.int_eq (by simp only [rf.immW] <;> omega)), rfl⟩
theorem rtold_B (v : Int) (hv : 0 ≤ v ∧ v < 4294967296) (w : World) : Calls Try.prog 40 #[.string ⟨#[66]⟩, .int .u32 v] w fun e w' => e = .returned (.int .i64 (rf.toldV 66 v)) ∧ w = w' := by
  simp only [rf.toldV]
  have hF0 := fun w => rfield_at v 8 4 256 16 (by decide) (by decide) (by omega) (by omega) hv w
  obtain ⟨x0, hx0⟩ : ∃ x, v / 256 % 16 = x := ⟨_, rfl⟩
  have b0 : 0 ≤ x0 := by rw [← hx0]; exact Int.emod_nonneg _ (by omega)
  have c0 : x0 < 16 := by rw [← hx0]; exact Int.emod_lt_of_pos _ (by omega)
  rw [hx0] at hF0 ⊢
  have HF0 := bl.hid hF0
  clear hx0 hF0
  have hF1 := fun w => rfield_at v 25 6 33554432 64 (by decide) (by decide) (by omega) (by omega) hv w
  obtain ⟨x1, hx1⟩ : ∃ x, v / 33554432 % 64 = x := ⟨_, rfl⟩
  have b1 : 0 ≤ x1 := by rw [← hx1]; exact Int.emod_nonneg _ (by omega)
  have c1 : x1 < 64 := by rw [← hx1]; exact Int.emod_lt_of_pos _ (by omega)
  rw [hx1] at hF1 ⊢
  have HF1 := bl.hid hF1
  clear hx1 hF1
  have hF2 := fun w => rfield_at v 7 1 128 2 (by decide) (by decide) (by omega) (by omega) hv w
  obtain ⟨x2, hx2⟩ : ∃ x, v / 128 % 2 = x := ⟨_, rfl⟩
  have b2 : 0 ≤ x2 := by rw [← hx2]; exact Int.emod_nonneg _ (by omega)
  have c2 : x2 < 2 := by rw [← hx2]; exact Int.emod_lt_of_pos _ (by omega)
  rw [hx2] at hF2 ⊢
  have HF2 := bl.hid hF2
  clear hx2 hF2
  have hF3 := fun w => rfield_at v 31 1 2147483648 2 (by decide) (by decide) (by omega) (by omega) hv w
  obtain ⟨x3, hx3⟩ : ∃ x, v / 2147483648 % 2 = x := ⟨_, rfl⟩
  have b3 : 0 ≤ x3 := by rw [← hx3]; exact Int.emod_nonneg _ (by omega)
  have c3 : x3 < 2 := by rw [← hx3]; exact Int.emod_lt_of_pos _ (by omega)
  rw [hx3] at hF3 ⊢
  have HF3 := bl.hid hF3
  clear hx3 hF3
  clear hv
  go_enter Try.func40, Try.ntmps40
  go_wp2_with fail
  refine (HF0.out _).mono ?_
  rintro e w' ⟨rfl, rfl⟩
  go_wp2_with fail
  refine (HF1.out _).mono ?_
  rintro e w' ⟨rfl, rfl⟩
  go_wp2_with fail
  refine (HF2.out _).mono ?_
  rintro e w' ⟨rfl, rfl⟩
  go_wp2_with fail
  refine (HF3.out _).mono ?_
  rintro e w' ⟨rfl, rfl⟩
  go_wp2_with fail
  refine (rsigned_13 _ (by omega) (by omega) _).mono ?_
  rintro e w' ⟨rfl, rfl⟩
  go_wp2
  go_ret
  exact ⟨rfl, rfl⟩
theorem rimmediate_U (n : Int) (w : World) : Calls Try.prog 34 #[.string ⟨#[85]⟩, .int .i64 n] w fun e w' => e = .returned (.bool (rf.immOk 85 n)) ∧ w = w' := by
  by_cases h : -524288 ≤ n ∧ n ≤ 524287
  · have hR : rf.immOk 85 n = true := decide_eq_true h
    rw [hR]
    clear hR
    obtain ⟨h1, h2⟩ := h
    go_enter Try.func34, Try.ntmps34
    go_wp2
    go_ret
    exact ⟨rfl, rfl⟩
  · have hR : rf.immOk 85 n = false := decide_eq_false h
    rw [hR]
    clear hR
    by_cases h1 : n < -524288
    · clear h
      go_enter Try.func34, Try.ntmps34
      go_wp2
      go_ret
      exact ⟨rfl, rfl⟩
    · have hd : decide (n ≤ 524287) = false := decide_eq_false (by omega)
      have h0 : -524288 ≤ n := by omega
      have h2 : 524287 < n := by omega
      clear h h1
      go_enter Try.func34, Try.ntmps34
      go_wp2
      go_ret
      exact ⟨rfl, rfl⟩
theorem rimm_U (n : Int) (w : World) : Calls Try.prog 31 #[.string ⟨#[85]⟩, .int .i64 n] w fun e w' => e = .returned (.int .u32 (rf.immW 85 n)) ∧ w = w' := by
  go_enter Try.func31, Try.ntmps31
  go_wp2_with fail
  refine (rbits_any _ _ _ _ (by omega) (by omega) (by omega) _).mono ?_
  rintro e w' ⟨rfl, rfl⟩
  go_wp2
  go_ret
  exact ⟨rfl, rfl⟩
theorem rtold_U (v : Int) (hv : 0 ≤ v ∧ v < 4294967296) (w : World) : Calls Try.prog 40 #[.string ⟨#[85]⟩, .int .u32 v] w fun e w' => e = .returned (.int .i64 (rf.toldV 85 v)) ∧ w = w' := by
  simp only [rf.toldV]
  have hF0 := fun w => rfield_at v 12 20 4096 1048576 (by decide) (by decide) (by omega) (by omega) hv w
  obtain ⟨x0, hx0⟩ : ∃ x, v / 4096 % 1048576 = x := ⟨_, rfl⟩
  have b0 : 0 ≤ x0 := by rw [← hx0]; exact Int.emod_nonneg _ (by omega)
  have c0 : x0 < 1048576 := by rw [← hx0]; exact Int.emod_lt_of_pos _ (by omega)
  rw [hx0] at hF0 ⊢
  have HF0 := bl.hid hF0
  clear hx0 hF0
  clear hv
  go_enter Try.func40, Try.ntmps40
  go_wp2_with fail
  refine (HF0.out _).mono ?_
  rintro e w' ⟨rfl, rfl⟩
  go_wp2_with fail
  refine (rsigned_20 _ (by omega) (by omega) _).mono ?_
  rintro e w' ⟨rfl, rfl⟩
  go_wp2
  go_ret
  exact ⟨rfl, rfl⟩
theorem rimmediate_J (n : Int) (w : World) : Calls Try.prog 34 #[.string ⟨#[74]⟩, .int .i64 n] w fun e w' => e = .returned (.bool (rf.immOk 74 n)) ∧ w = w' := by
  by_cases h : -1048576 ≤ n ∧ n ≤ 1048574 ∧ n.tmod 2 = 0
  · have hR : rf.immOk 74 n = true := decide_eq_true h
    rw [hR]
    clear hR
    obtain ⟨h1, h2, h3⟩ := h
    have h4 : (n.tmod 2 == 0) = true := by simpa using h3
    clear h3
    go_enter Try.func34, Try.ntmps34
    go_wp2
    go_ret
    exact ⟨rfl, rfl⟩
  · have hR : rf.immOk 74 n = false := decide_eq_false h
    rw [hR]
    clear hR
    by_cases h1 : n < -1048576
    · clear h
      go_enter Try.func34, Try.ntmps34
      go_wp2
      go_ret
      exact ⟨rfl, rfl⟩
    · by_cases h2 : 1048574 < n
      · clear h
        have hd : decide (n ≤ 1048574) = false := decide_eq_false (by omega)
        have h0 : -1048576 ≤ n := by omega
        clear h1
        go_enter Try.func34, Try.ntmps34
        go_wp2
        go_ret
        exact ⟨rfl, rfl⟩
      · have h4 : (n.tmod 2 == 0) = false := by cases hq : n.tmod 2 == 0 with | false => rfl | true => exact absurd ⟨by omega, by omega, by simpa using hq⟩ h
        have h0 : -1048576 ≤ n := by omega
        have h5 : n ≤ 1048574 := by omega
        clear h h1 h2
        go_enter Try.func34, Try.ntmps34
        go_wp2
        go_ret
        exact ⟨rfl, rfl⟩
theorem rimm_J (n : Int) (w : World) : Calls Try.prog 31 #[.string ⟨#[74]⟩, .int .i64 n] w fun e w' => e = .returned (.int .u32 (rf.immW 74 n)) ∧ w = w' := by
  go_enter Try.func31, Try.ntmps31
  go_wp2_with fail
  refine (rbits_any _ _ _ _ (by omega) (by omega) (by omega) _).mono ?_
  rintro e w' ⟨rfl, rfl⟩
  go_wp2_with fail
  refine (rbits_any _ _ _ _ (by omega) (by omega) (by omega) _).mono ?_
  rintro e w' ⟨rfl, rfl⟩
  go_wp2_with fail
  refine (rbits_any _ _ _ _ (by omega) (by omega) (by omega) _).mono ?_
  rintro e w' ⟨rfl, rfl⟩
  go_wp2_with fail
  refine (rbits_any _ _ _ _ (by omega) (by omega) (by omega) _).mono ?_
  rintro e w' ⟨rfl, rfl⟩
  go_wp2
  go_ret
  exact ⟨bl.ret1 (bl.int_eq (by simp only [rf.immW] <;> omega)), rfl⟩
theorem rtold_J (v : Int) (hv : 0 ≤ v ∧ v < 4294967296) (w : World) : Calls Try.prog 40 #[.string ⟨#[74]⟩, .int .u32 v] w fun e w' => e = .returned (.int .i64 (rf.toldV 74 v)) ∧ w = w' := by
  simp only [rf.toldV]
  have hF0 := fun w => rfield_at v 21 10 2097152 1024 (by decide) (by decide) (by omega) (by omega) hv w
  obtain ⟨x0, hx0⟩ : ∃ x, v / 2097152 % 1024 = x := ⟨_, rfl⟩
  have b0 : 0 ≤ x0 := by rw [← hx0]; exact Int.emod_nonneg _ (by omega)
  have c0 : x0 < 1024 := by rw [← hx0]; exact Int.emod_lt_of_pos _ (by omega)
  rw [hx0] at hF0 ⊢
  have HF0 := bl.hid hF0
  clear hx0 hF0
  have hF1 := fun w => rfield_at v 20 1 1048576 2 (by decide) (by decide) (by omega) (by omega) hv w
  obtain ⟨x1, hx1⟩ : ∃ x, v / 1048576 % 2 = x := ⟨_, rfl⟩
  have b1 : 0 ≤ x1 := by rw [← hx1]; exact Int.emod_nonneg _ (by omega)
  have c1 : x1 < 2 := by rw [← hx1]; exact Int.emod_lt_of_pos _ (by omega)
  rw [hx1] at hF1 ⊢
  have HF1 := bl.hid hF1
  clear hx1 hF1
  have hF2 := fun w => rfield_at v 12 8 4096 256 (by decide) (by decide) (by omega) (by omega) hv w
  obtain ⟨x2, hx2⟩ : ∃ x, v / 4096 % 256 = x := ⟨_, rfl⟩
  have b2 : 0 ≤ x2 := by rw [← hx2]; exact Int.emod_nonneg _ (by omega)
  have c2 : x2 < 256 := by rw [← hx2]; exact Int.emod_lt_of_pos _ (by omega)
  rw [hx2] at hF2 ⊢
  have HF2 := bl.hid hF2
  clear hx2 hF2
  have hF3 := fun w => rfield_at v 31 1 2147483648 2 (by decide) (by decide) (by omega) (by omega) hv w
  obtain ⟨x3, hx3⟩ : ∃ x, v / 2147483648 % 2 = x := ⟨_, rfl⟩
  have b3 : 0 ≤ x3 := by rw [← hx3]; exact Int.emod_nonneg _ (by omega)
  have c3 : x3 < 2 := by rw [← hx3]; exact Int.emod_lt_of_pos _ (by omega)
  rw [hx3] at hF3 ⊢
  have HF3 := bl.hid hF3
  clear hx3 hF3
  clear hv
  go_enter Try.func40, Try.ntmps40
  go_wp2_with fail
  refine (HF0.out _).mono ?_
  rintro e w' ⟨rfl, rfl⟩
  go_wp2_with fail
  refine (HF1.out _).mono ?_
  rintro e w' ⟨rfl, rfl⟩
  go_wp2_with fail
  refine (HF2.out _).mono ?_
  rintro e w' ⟨rfl, rfl⟩
  go_wp2_with fail
  refine (HF3.out _).mono ?_
  rintro e w' ⟨rfl, rfl⟩
  go_wp2_with fail
  refine (rsigned_21 _ (by omega) (by omega) _).mono ?_
  rintro e w' ⟨rfl, rfl⟩
  go_wp2
  go_ret
  exact ⟨rfl, rfl⟩
theorem rimmediate_E (n : Int) (w : World) : Calls Try.prog 34 #[.string ⟨#[69]⟩, .int .i64 n] w fun e w' => e = .returned (.bool (rf.immOk 69 n)) ∧ w = w' := by
  have hR : rf.immOk 69 n = (n == 0) := by
    show decide (n = 0) = _
    by_cases h : n = 0 <;> simp [h]
  rw [hR]
  clear hR
  go_enter Try.func34, Try.ntmps34
  go_wp2
  go_ret
  exact ⟨rfl, rfl⟩
theorem rimm_E (n : Int) (w : World) : Calls Try.prog 31 #[.string ⟨#[69]⟩, .int .i64 n] w fun e w' => e = .returned (.int .u32 (rf.immW 69 n)) ∧ w = w' := by
  go_enter Try.func31, Try.ntmps31
  go_wp2
  go_ret
  exact ⟨rfl, rfl⟩
theorem rtold_E (v : Int) (hv : 0 ≤ v ∧ v < 4294967296) (w : World) : Calls Try.prog 40 #[.string ⟨#[69]⟩, .int .u32 v] w fun e w' => e = .returned (.int .i64 (rf.toldV 69 v)) ∧ w = w' := by
  go_enter Try.func40, Try.ntmps40
  go_wp2
  go_ret
  exact ⟨rfl, rfl⟩
end Go.Proofs.Ytbfoooplhpikjaa
