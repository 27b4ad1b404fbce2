/- The stub layer's functions, and the reference's, each by a contract: what it answers, and that it leaves old memory alone. -/
import Derived.Test.YtlajigmejbhfdaaRows
import Derived.Test.YtlajigmejbhfdaaPlain
import Derived.Test.YtlajigmejbhfdaaBits
import Derived.Handy

namespace Go.Proofs.Ytlajigmejbhfdaa
open Go.RowKit
set_option linter.unusedVariables false

/-- 'Pick' answers a number from 0 to n - 1. -/
def PickPost (n : Int) (w : World) (e : Ending) (w' : World) : Prop := ∃ k : Int, 0 ≤ k ∧ k < n ∧ e = .returned (.int .i64 k) ∧ w = w'

theorem pick_any (x n : Int) (w : World) (h1 : 1 ≤ n) (h2 : n ≤ 1000000) (hx0 : -9223372036854775808 ≤ x) (hx1 : x ≤ 9223372036854775807) :
    Calls Try.prog 8 #[.int .i64 x, .int .i64 n] w (PickPost n w) := by
  have b1 : -n < x.tmod n := by have := Int.lt_tmod_of_pos x (b := n) (by omega); omega
  have b2 : x.tmod n < n := Int.tmod_lt_of_pos x (by omega)
  have b3 : 0 ≤ (x.tmod n + n) % n := Int.emod_nonneg _ (by omega)
  have b4 : (x.tmod n + n) % n < n := Int.emod_lt_of_pos _ (by omega)
  go_enter Try.func8, Try.ntmps8
  go_wp2
  go_ret
  exact ⟨_, b3, b4, rfl, rfl⟩

/-! ### Address, and the reference's -/
theorem adr_ok (k p : Int) (w : World) (h1 : 0 ≤ k) (h2 : k < 8) (h3 : 0 ≤ p) (h4 : p < 4096) :
    Calls Try.prog 9 #[.int .i64 k, .int .i64 p] w fun e w' => e = .returned (.tuple #[.int .u64 (1073741824 + 16 * (8 * p + k)), .int .i64 0]) ∧ w = w' := by
  have hb : bits .or .i64 (p * 8) k = p * 8 + k := bl.i64_join 3 _ _ (by omega) (by omega) h1 (by omega) (by omega) (by omega)
  go_enter Try.func9, Try.ntmps9
  go_wp2
  go_ret2
  exact ⟨bl.ret2 (bl.int_eq (by omega)) rfl, rfl⟩
theorem adr_no (k p : Int) (w : World) (h : k < 0 ∨ 8 ≤ k ∨ p < 0 ∨ 4096 ≤ p) :
    Calls Try.prog 9 #[.int .i64 k, .int .i64 p] w fun e w' => e = .returned (.tuple #[.int .u64 0, .int .i64 2]) ∧ w = w' := by
  go_enter Try.func9, Try.ntmps9
  go_wp2
  all_goals (go_ret2; exact ⟨rfl, rfl⟩)
theorem radr_ok (k p : Int) (w : World) (h1 : 0 ≤ k) (h2 : k < 8) (h3 : 0 ≤ p) (h4 : p < 4096) :
    Calls Try.prog 11 #[.int .i64 k, .int .i64 p] w fun e w' => e = .returned (.tuple #[.int .u64 (1073741824 + 16 * (8 * p + k)), .int .i64 0]) ∧ w = w' := by
  go_enter Try.func11, Try.ntmps11
  go_wp2
  go_ret2
  exact ⟨bl.ret2 (bl.int_eq (by omega)) rfl, rfl⟩
theorem radr_no (k p : Int) (w : World) (h : k < 0 ∨ 8 ≤ k ∨ p < 0 ∨ 4096 ≤ p) :
    Calls Try.prog 11 #[.int .i64 k, .int .i64 p] w fun e w' => e = .returned (.tuple #[.int .u64 0, .int .i64 2]) ∧ w = w' := by
  go_enter Try.func11, Try.ntmps11
  go_wp2
  all_goals (go_ret2; exact ⟨rfl, rfl⟩)

/-! ### What a place says -/
/-- the closure inside 'What' -/
theorem what_in_ok (a : Int) (A : Addr) (w : World) (hc : w.cell? A = some (.int .u64 a)) (h0 : 0 ≤ a) (h1 : 1073741824 ≤ a) (h2 : a % 16 = 0) (h3 : a < 1073741824 + 16 * 32768) :
    Calls Try.prog 17 #[.pointer (some A)] w fun e w' => e = .returned (.tuple #[.int .i64 ((a - 1073741824) / 16 % 8), .int .i64 ((a - 1073741824) / 128), .bool true]) ∧ w = w' := by
  have hb : bits .and .u64 (a - 1073741824) 15 = 0 := by rw [bl.u64_and_mask 4 _ _ (by decide) (by decide) (by omega) (by omega)]; omega
  have hb2 : bits .and .u64 ((a - 1073741824) / 16) 7 = (a - 1073741824) / 16 % 8 := bl.u64_and_mask 3 _ _ (by decide) (by decide) (by omega) (by omega)
  go_enter Try.func17, Try.ntmps17
  go_wp2
  refine bodyPost_ret (v := .tuple #[.int .i64 ((a - 1073741824) / 16 % 8), .int .i64 ((a - 1073741824) / 16 / 8), .bool true]) ?_ rfl ?_
  · simp [results, Try.results17, go_sem]
  · exact ⟨bl.ret3 rfl (bl.int_eq (by omega)) rfl, rfl⟩
theorem what_in_no (a : Int) (A : Addr) (w : World) (hc : w.cell? A = some (.int .u64 a)) (h0 : 0 ≤ a) (h4 : a < 18446744073709551616) (h : a < 1073741824 ∨ a % 16 ≠ 0 ∨ 1073741824 + 16 * 32768 ≤ a) :
    Calls Try.prog 17 #[.pointer (some A)] w fun e w' => e = .returned (.tuple #[.int .i64 0, .int .i64 0, .bool false]) ∧ w = w' := by
  by_cases h1 : a < 1073741824
  · clear h
    go_enter Try.func17, Try.ntmps17
    go_wp2
    go_ret3
    exact ⟨rfl, rfl⟩
  · have hb : bits .and .u64 (a - 1073741824) 15 = (a - 1073741824) % 16 := by rw [bl.u64_and_mask 4 _ _ (by decide) (by decide) (by omega) (by omega)]; rfl
    by_cases h2 : a % 16 = 0
    · have h3 : 1073741824 + 16 * 32768 ≤ a := by omega
      have hb : bits .and .u64 (a - 1073741824) 15 = 0 := by rw [hb]; omega
      clear h
      go_enter Try.func17, Try.ntmps17
      go_wp2
      go_ret3
      exact ⟨rfl, rfl⟩
    · have hx : ((a - 1073741824) % 16 != 0) = true := by simp; omega
      clear h
      go_enter Try.func17, Try.ntmps17
      go_wp2
      go_ret3
      exact ⟨rfl, rfl⟩
theorem what_ok (a : Int) (w : World) (h0 : 0 ≤ a) (h1 : 1073741824 ≤ a) (h2 : a % 16 = 0) (h3 : a < 1073741824 + 16 * 32768) :
    Calls Try.prog 12 #[.int .u64 a] w fun e w' => e = .returned (.tuple #[.int .i64 ((a - 1073741824) / 16 % 8), .int .i64 ((a - 1073741824) / 128), .bool true]) ∧ Below w.heap.size w w' := by
  have hmf : ∀ (fn : Fn) (first cap : Array Value) (w : World), (Instr.makeFunc fn first cap).run Try.prog w = .ok (.func fn first cap) w := fun _ _ _ _ => rfl
  go_enter Try.func12, Try.ntmps12
  go_wp2_with (first | (go_at_call 17; refine (what_in_ok a _ _ (by simp) h0 h1 h2 h3).mono ?_; rintro e w' ⟨rfl, rfl⟩) | go_in)
  go_ret3
  exact ⟨rfl, (Below.refl _ _).alloc (Nat.le_refl _) _⟩
theorem what_no (a : Int) (w : World) (h0 : 0 ≤ a) (h4 : a < 18446744073709551616) (h : a < 1073741824 ∨ a % 16 ≠ 0 ∨ 1073741824 + 16 * 32768 ≤ a) :
    Calls Try.prog 12 #[.int .u64 a] w fun e w' => e = .returned (.tuple #[.int .i64 0, .int .i64 0, .bool false]) ∧ Below w.heap.size w w' := by
  have hmf : ∀ (fn : Fn) (first cap : Array Value) (w : World), (Instr.makeFunc fn first cap).run Try.prog w = .ok (.func fn first cap) w := fun _ _ _ _ => rfl
  have H := bl.hid h
  clear h
  go_enter Try.func12, Try.ntmps12
  go_wp2_with (first | (go_at_call 17; refine (what_in_no a _ _ (by simp) h0 h4 H.out).mono ?_; rintro e w' ⟨rfl, rfl⟩) | go_in)
  go_ret3
  exact ⟨rfl, (Below.refl _ _).alloc (Nat.le_refl _) _⟩

end Go.Proofs.Ytlajigmejbhfdaa
