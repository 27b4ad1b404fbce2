/- The stub layer: the reference's What, both Upper, and the statements' own helpers, each by a contract. -/
import Derived.Test.YtlajigmejbhfdaaWalks
namespace Go.Proofs.Ytlajigmejbhfdaa
open Go.RowKit
set_option linter.unusedVariables false

theorem rwhat_ok (a : Int) (w : World) (h0 : 0 ≤ a) (h1 : 1073741824 ≤ a) (h2 : a % 16 = 0) (h3 : a < 1073741824 + 16 * 32768) :
    Calls Try.prog 13 #[.int .u64 a] w fun e w' => e = .returned (.tuple #[.int .i64 ((a - 1073741824) / 16 % 8), .int .i64 ((a - 1073741824) / 128), .bool true]) ∧ w = w' := by
  go_enter Try.func13, Try.ntmps13
  go_wp2
  refine bodyPost_ret (v := .tuple #[.int .i64 ((a - 1073741824) / 16 % 8), .int .i64 ((a - 1073741824) / 16 / 8), .bool true]) ?_ rfl ?_
  · simp [results, Try.results13, go_sem]
  · exact ⟨bl.ret3 rfl (bl.int_eq (by omega)) rfl, rfl⟩
theorem rwhat_no (a : Int) (w : World) (h0 : 0 ≤ a) (h4 : a < 18446744073709551616) (h : a < 1073741824 ∨ a % 16 ≠ 0 ∨ 1073741824 + 16 * 32768 ≤ a) :
    Calls Try.prog 13 #[.int .u64 a] w fun e w' => e = .returned (.tuple #[.int .i64 0, .int .i64 0, .bool false]) ∧ w = w' := by
  by_cases h1 : a < 1073741824
  · clear h
    go_enter Try.func13, Try.ntmps13
    go_wp2
    go_ret3
    exact ⟨rfl, rfl⟩
  · by_cases h2 : a % 16 = 0
    · have h3 : 1073741824 + 16 * 32768 ≤ a := by omega
      clear h
      go_enter Try.func13, Try.ntmps13
      go_wp2
      go_ret3
      exact ⟨rfl, rfl⟩
    · have hx : (a % 16 != 0) = true := by simp; omega
      clear h
      go_enter Try.func13, Try.ntmps13
      go_wp2
      go_ret3
      exact ⟨rfl, rfl⟩

/-! ### Upper -/
theorem upper_ok (a : Int) (w : World) (h0 : 0 ≤ a) (h1 : 1073741824 ≤ a) (h2 : a % 16 = 0) (h3 : a < 1073741824 + 16 * 32768) :
    Calls Try.prog 14 #[.int .u64 a] w fun e w' => e = .returned (.tuple #[.int .i64 ((a - pl.low a) / 4096), .int .i64 (pl.low a)]) ∧ Below w.heap.size w w' := by
  have hb : bits .and .u64 a 4095 = a % 4096 := bl.u64_and_mask 12 _ _ (by decide) (by decide) (by omega) (by omega)
  by_cases hl : 2048 ≤ a % 4096
  · have hw : pl.low a = a % 4096 - 4096 := by simp [pl.low, hl]
    rw [hw]
    clear hw
    go_enter Try.func14, Try.ntmps14
    go_wp2_with (go_at_call 12; refine (what_ok a _ h0 h1 h2 h3).mono ?_; rintro e w' ⟨rfl, hg⟩)
    go_ret2
    exact ⟨rfl, hg⟩
  · have hw : pl.low a = a % 4096 := by simp [pl.low, hl]
    rw [hw]
    clear hw
    go_enter Try.func14, Try.ntmps14
    go_wp2_with (go_at_call 12; refine (what_ok a _ h0 h1 h2 h3).mono ?_; rintro e w' ⟨rfl, hg⟩)
    go_ret2
    exact ⟨rfl, hg⟩
theorem upper_no (a : Int) (w : World) (h0 : 0 ≤ a) (h4 : a < 18446744073709551616) (h : a < 1073741824 ∨ a % 16 ≠ 0 ∨ 1073741824 + 16 * 32768 ≤ a) :
    Calls Try.prog 14 #[.int .u64 a] w fun e w' => e = .returned (.tuple #[.int .i64 0, .int .i64 0]) ∧ Below w.heap.size w w' := by
  have H := bl.hid h
  clear h
  go_enter Try.func14, Try.ntmps14
  go_wp2_with (go_at_call 12; refine (what_no a _ h0 h4 H.out).mono ?_; rintro e w' ⟨rfl, hg⟩)
  go_ret2
  exact ⟨rfl, hg⟩
theorem rupper_ok (a : Int) (w : World) (h0 : 0 ≤ a) (h1 : 1073741824 ≤ a) (h2 : a % 16 = 0) (h3 : a < 1073741824 + 16 * 32768) :
    Calls Try.prog 15 #[.int .u64 a] w fun e w' => e = .returned (.tuple #[.int .i64 ((a - pl.low a) / 4096), .int .i64 (pl.low a)]) ∧ w = w' := by
  by_cases hl : 2048 ≤ a % 4096
  · have hw : pl.low a = a % 4096 - 4096 := by simp [pl.low, hl]
    rw [hw]
    clear hw
    go_enter Try.func15, Try.ntmps15
    go_wp2_with (go_at_call 13; refine (rwhat_ok a _ h0 h1 h2 h3).mono ?_; rintro e w' ⟨rfl, rfl⟩)
    go_ret2
    exact ⟨rfl, rfl⟩
  · have hw : pl.low a = a % 4096 := by simp [pl.low, hl]
    rw [hw]
    clear hw
    go_enter Try.func15, Try.ntmps15
    go_wp2_with (go_at_call 13; refine (rwhat_ok a _ h0 h1 h2 h3).mono ?_; rintro e w' ⟨rfl, rfl⟩)
    go_ret2
    exact ⟨rfl, rfl⟩
theorem rupper_no (a : Int) (w : World) (h0 : 0 ≤ a) (h4 : a < 18446744073709551616) (h : a < 1073741824 ∨ a % 16 ≠ 0 ∨ 1073741824 + 16 * 32768 ≤ a) :
    Calls Try.prog 15 #[.int .u64 a] w fun e w' => e = .returned (.tuple #[.int .i64 0, .int .i64 0]) ∧ w = w' := by
  have H := bl.hid h
  clear h
  go_enter Try.func15, Try.ntmps15
  go_wp2_with (go_at_call 13; refine (rwhat_no a _ h0 h4 H.out).mono ?_; rintro e w' ⟨rfl, rfl⟩)
  go_ret2
  exact ⟨rfl, rfl⟩

/-! ### The statements' helpers -/
theorem says_yes (a k p : Int) (w : World) (h1 : 0 ≤ k) (h2 : k < 8) (h3 : 0 ≤ p) (h4 : p < 4096) (ha : a = 1073741824 + 16 * (8 * p + k)) :
    Calls Try.prog 10 #[.int .u64 a, .int .i64 k, .int .i64 p, .bool true] w fun e w' => e = .returned (.bool true) ∧ Below w.heap.size w w' := by
  have q1 : (a - 1073741824) / 16 % 8 = k := by omega
  have q2 : (a - 1073741824) / 128 = p := by omega
  have g1 : 1073741824 ≤ a := by omega
  have g2 : a % 16 = 0 := by omega
  have g3 : a < 1073741824 + 16 * 32768 := by omega
  clear ha
  go_enter Try.func10, Try.ntmps10
  go_wp2_with (go_at_call 12; refine (what_ok a _ (by omega) g1 g2 g3).mono ?_; rw [q1, q2]; rintro e w' ⟨rfl, hg⟩)
  go_ret
  exact ⟨rfl, hg⟩
theorem says_no (a : Int) (w : World) (h0 : 0 ≤ a) (h4 : a < 18446744073709551616) (h : a < 1073741824 ∨ a % 16 ≠ 0 ∨ 1073741824 + 16 * 32768 ≤ a) :
    Calls Try.prog 10 #[.int .u64 a, .int .i64 0, .int .i64 0, .bool false] w fun e w' => e = .returned (.bool true) ∧ Below w.heap.size w w' := by
  have H := bl.hid h
  clear h
  go_enter Try.func10, Try.ntmps10
  go_wp2_with (go_at_call 12; refine (what_no a _ h0 h4 H.out).mono ?_; rintro e w' ⟨rfl, hg⟩)
  go_ret
  exact ⟨rfl, hg⟩
theorem awake_true (w : World) :
    Calls Try.prog 7 #[] w fun e w' => e = .returned (.bool true) ∧ Below w.heap.size w w' := by
  go_enter Try.func7, Try.ntmps7
  go_wp2_with fail
  refine (adr_ok 0 0 _ (by omega) (by omega) (by omega) (by omega)).mono ?_
  rintro e w' ⟨rfl, rfl⟩
  go_wp2_with fail
  refine (adr_ok 1 3 _ (by omega) (by omega) (by omega) (by omega)).mono ?_
  rintro e w' ⟨rfl, rfl⟩
  go_wp2_with fail
  refine (says_yes 1073742224 1 3 _ (by omega) (by omega) (by omega) (by omega) (by omega)).mono ?_
  rintro e w1 ⟨rfl, hg1⟩
  go_wp2_with fail
  refine (says_no 16 _ (by omega) (by omega) (by omega)).mono ?_
  rintro e w2 ⟨rfl, hg2⟩
  go_wp2
  go_ret
  exact ⟨rfl, hg1.trans (hg2.mono hg1.size)⟩
end Go.Proofs.Ytlajigmejbhfdaa
