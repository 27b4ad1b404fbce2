/- The frame layer's functions, and the reference's, each by a contract. -/
import Derived.Test.YteemlbkbfngoeaaRows
import Derived.Test.YteemlbkbfngoeaaPlain
import Derived.Test.YteemlbkbfngoeaaBits
import Derived.Handy
namespace Go.Proofs.Yteemlbkbfngoeaa
open Go.RowKit
set_option linter.unusedVariables false

/-- 'Pick' answers a number from 0 to n - 1. -/
def PickPost (n : Int) (w : World) (e : Ending) (w' : World) : Prop := ∃ k : Int, 0 ≤ k ∧ k < n ∧ e = .returned (.int .i64 k) ∧ w = w'

theorem pick_any (x n : Int) (w : World) (h1 : 1 ≤ n) (h2 : n ≤ 1000000) (hx0 : -9223372036854775808 ≤ x) (hx1 : x ≤ 9223372036854775807) :
    Calls Try.prog 15 #[.int .i64 x, .int .i64 n] w (PickPost n w) := by
  have b1 : -n < x.tmod n := by have := Int.lt_tmod_of_pos x (b := n) (by omega); omega
  have b2 : x.tmod n < n := Int.tmod_lt_of_pos x (by omega)
  have b3 : 0 ≤ (x.tmod n + n) % n := Int.emod_nonneg _ (by omega)
  have b4 : (x.tmod n + n) % n < n := Int.emod_lt_of_pos _ (by omega)
  go_enter Try.func15, Try.ntmps15
  go_wp2
  go_ret
  exact ⟨_, b3, b4, rfl, rfl⟩

/-! ### Size -/
theorem size_ok (r a : Int) (w : World) (h1 : 0 ≤ r) (h2 : r ≤ 64) (h3 : 0 ≤ a) (h4 : a ≤ 4096) :
    Calls Try.prog 8 #[.int .i64 r, .int .i64 a] w fun e w' => e = .returned (.tuple #[.int .i64 ((8 * r + a + 15) / 16 * 16), .int .i64 0]) ∧ w = w' := by
  go_enter Try.func8, Try.ntmps8
  go_wp2
  go_ret2
  exact ⟨bl.ret2 (bl.int_eq (by omega)) rfl, rfl⟩
theorem size_no (r a : Int) (w : World) (h : r < 0 ∨ 64 < r ∨ a < 0 ∨ 4096 < a) :
    Calls Try.prog 8 #[.int .i64 r, .int .i64 a] w fun e w' => e = .returned (.tuple #[.int .i64 0, .int .i64 2]) ∧ w = w' := by
  go_enter Try.func8, Try.ntmps8
  go_wp2
  all_goals (go_ret2; exact ⟨rfl, rfl⟩)
theorem rsize_ok (r a : Int) (w : World) (h1 : 0 ≤ r) (h2 : r ≤ 64) (h3 : 0 ≤ a) (h4 : a ≤ 4096) :
    Calls Try.prog 9 #[.int .i64 r, .int .i64 a] w fun e w' => e = .returned (.tuple #[.int .i64 ((8 * r + a + 15) / 16 * 16), .int .i64 0]) ∧ w = w' := by
  go_enter Try.func9, Try.ntmps9
  go_wp2
  go_ret2
  exact ⟨bl.ret2 (bl.int_eq (by omega)) rfl, rfl⟩
theorem rsize_no (r a : Int) (w : World) (h : r < 0 ∨ 64 < r ∨ a < 0 ∨ 4096 < a) :
    Calls Try.prog 9 #[.int .i64 r, .int .i64 a] w fun e w' => e = .returned (.tuple #[.int .i64 0, .int .i64 2]) ∧ w = w' := by
  go_enter Try.func9, Try.ntmps9
  go_wp2
  all_goals (go_ret2; exact ⟨rfl, rfl⟩)

/-! ### Slot, Area -/
theorem slot_any (t r : Int) (w : World) : Calls Try.prog 10 #[.int .u64 t, .int .i64 r] w fun e w' => e = .returned (.int .u64 (pl.slt t r)) ∧ w = w' := by
  go_enter Try.func10, Try.ntmps10
  go_wp2
  go_ret
  exact ⟨bl.ret1 (bl.int_eq (by simp only [IntKind.wrap_u64, pl.slt]; omega)), rfl⟩
theorem rslot_any (t r : Int) (w : World) : Calls Try.prog 11 #[.int .u64 t, .int .i64 r] w fun e w' => e = .returned (.int .u64 (pl.slt t r)) ∧ w = w' := by
  go_enter Try.func11, Try.ntmps11
  go_wp2
  go_ret
  exact ⟨bl.ret1 (bl.int_eq (by simp only [IntKind.wrap_u64, pl.slt]; omega)), rfl⟩
theorem area_any (t r n : Int) (w : World) : Calls Try.prog 12 #[.int .u64 t, .int .i64 r, .int .i64 n] w fun e w' => e = .returned (.int .u64 (pl.are t r n)) ∧ w = w' := by
  go_enter Try.func12, Try.ntmps12
  go_wp2
  go_ret
  exact ⟨bl.ret1 (bl.int_eq (by simp only [IntKind.wrap_u64, pl.are]; omega)), rfl⟩
theorem rarea_any (t r n : Int) (w : World) : Calls Try.prog 13 #[.int .u64 t, .int .i64 r, .int .i64 n] w fun e w' => e = .returned (.int .u64 (pl.are t r n)) ∧ w = w' := by
  go_enter Try.func13, Try.ntmps13
  go_wp2
  go_ret
  exact ⟨bl.ret1 (bl.int_eq (by simp only [IntKind.wrap_u64, pl.are]; omega)), rfl⟩

/-! ### Floor, Top -/
theorem floor_ok (n : Int) (w : World) (h1 : 0 ≤ n) (h2 : n ≤ 8192) : Calls Try.prog 17 #[.int .i64 n] w fun e w' => e = .returned (.tuple #[.int .u64 ((16 + n + 15) / 16 * 16), .int .i64 0]) ∧ w = w' := by
  go_enter Try.func17, Try.ntmps17
  go_wp2
  go_ret2
  exact ⟨bl.ret2 (bl.int_eq (by omega)) rfl, rfl⟩
theorem floor_no (n : Int) (w : World) (h : n < 0 ∨ 8192 < n) : Calls Try.prog 17 #[.int .i64 n] w fun e w' => e = .returned (.tuple #[.int .u64 0, .int .i64 2]) ∧ w = w' := by
  go_enter Try.func17, Try.ntmps17
  go_wp2
  all_goals (go_ret2; exact ⟨rfl, rfl⟩)
theorem rfloor_ok (n : Int) (w : World) (h1 : 0 ≤ n) (h2 : n ≤ 8192) : Calls Try.prog 18 #[.int .i64 n] w fun e w' => e = .returned (.tuple #[.int .u64 ((16 + n + 15) / 16 * 16), .int .i64 0]) ∧ w = w' := by
  go_enter Try.func18, Try.ntmps18
  go_wp2
  go_ret2
  exact ⟨bl.ret2 (bl.int_eq (by omega)) rfl, rfl⟩
theorem rfloor_no (n : Int) (w : World) (h : n < 0 ∨ 8192 < n) : Calls Try.prog 18 #[.int .i64 n] w fun e w' => e = .returned (.tuple #[.int .u64 0, .int .i64 2]) ∧ w = w' := by
  go_enter Try.func18, Try.ntmps18
  go_wp2
  all_goals (go_ret2; exact ⟨rfl, rfl⟩)
theorem top_ok (n : Int) (w : World) (h1 : 16 ≤ n) (h2 : n ≤ 65536) : Calls Try.prog 19 #[.int .i64 n] w fun e w' => e = .returned (.tuple #[.int .u64 (n / 16 * 16), .int .i64 0]) ∧ w = w' := by
  go_enter Try.func19, Try.ntmps19
  go_wp2
  go_ret2
  exact ⟨bl.ret2 (bl.int_eq (by omega)) rfl, rfl⟩
theorem top_no (n : Int) (w : World) (h : n < 16 ∨ 65536 < n) : Calls Try.prog 19 #[.int .i64 n] w fun e w' => e = .returned (.tuple #[.int .u64 0, .int .i64 2]) ∧ w = w' := by
  go_enter Try.func19, Try.ntmps19
  go_wp2
  all_goals (go_ret2; exact ⟨rfl, rfl⟩)
theorem rtop_ok (n : Int) (w : World) (h1 : 16 ≤ n) (h2 : n ≤ 65536) : Calls Try.prog 20 #[.int .i64 n] w fun e w' => e = .returned (.tuple #[.int .u64 (n / 16 * 16), .int .i64 0]) ∧ w = w' := by
  go_enter Try.func20, Try.ntmps20
  go_wp2
  go_ret2
  exact ⟨bl.ret2 (bl.int_eq (by omega)) rfl, rfl⟩
theorem rtop_no (n : Int) (w : World) (h : n < 16 ∨ 65536 < n) : Calls Try.prog 20 #[.int .i64 n] w fun e w' => e = .returned (.tuple #[.int .u64 0, .int .i64 2]) ∧ w = w' := by
  go_enter Try.func20, Try.ntmps20
  go_wp2
  all_goals (go_ret2; exact ⟨rfl, rfl⟩)

/-! ### odd, place -/
theorem odd_no (t : Int) (w : World) (h0 : 0 ≤ t) (h1 : t % 16 = 0) (h2 : t ≤ 65536) : Calls Try.prog 28 #[.int .u64 t] w fun e w' => e = .returned (.bool false) ∧ w = w' := by
  go_enter Try.func28, Try.ntmps28
  go_wp2
  go_ret
  exact ⟨bl.ret1 (bl.bool_eq (decide_eq_false (by omega))), rfl⟩
theorem odd_yes (t : Int) (w : World) (h0 : 0 ≤ t) (h : t % 16 ≠ 0 ∨ 65536 < t) : Calls Try.prog 28 #[.int .u64 t] w fun e w' => e = .returned (.bool true) ∧ w = w' := by
  by_cases h1 : t % 16 = 0
  · have h2 : 65536 < t := by omega
    clear h
    go_enter Try.func28, Try.ntmps28
    go_wp2
    go_ret
    exact ⟨rfl, rfl⟩
  · have hx : (t % 16 != 0) = true := by simp; omega
    clear h
    go_enter Try.func28, Try.ntmps28
    go_wp2
    go_ret
    exact ⟨rfl, rfl⟩
theorem place_yes (t : Int) (w : World) (h0 : 0 ≤ t) (h1 : t % 16 = 0) (h2 : t ≤ 65536) : Calls Try.prog 31 #[.int .u64 t] w fun e w' => e = .returned (.bool true) ∧ w = w' := by
  go_enter Try.func31, Try.ntmps31
  go_wp2
  go_ret
  exact ⟨rfl, rfl⟩
theorem place_no (t : Int) (w : World) (h0 : 0 ≤ t) (h : t % 16 ≠ 0 ∨ 65536 < t) : Calls Try.prog 31 #[.int .u64 t] w fun e w' => e = .returned (.bool false) ∧ w = w' := by
  by_cases h1 : t % 16 = 0
  · have h2 : 65536 < t := by omega
    clear h
    go_enter Try.func31, Try.ntmps31
    go_wp2
    go_ret
    exact ⟨bl.ret1 (bl.bool_eq (decide_eq_false (by omega))), rfl⟩
  · have hx : (t % 16 == 0) = false := by simp; omega
    clear h
    go_enter Try.func31, Try.ntmps31
    go_wp2
    go_ret
    exact ⟨rfl, rfl⟩
end Go.Proofs.Yteemlbkbfngoeaa
