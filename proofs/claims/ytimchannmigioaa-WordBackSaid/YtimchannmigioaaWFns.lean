/- The word layer's twenty functions and Do, each by a contract. -/
import Derived.Test.YtimchannmigioaaWMul
import Derived.Laws.EntriesVeiled
namespace Go.Proofs.Ytimchannmigioaa
open Go.RowKit
set_option linter.unusedVariables false

theorem fn1 (x y : Int) (w : World) (x0 : 0 ≤ x) (x1 : x < 18446744073709551616) (y0 : 0 ≤ y) (y1 : y < 18446744073709551616) : Calls Try.prog 37 #[.int .u64 x, .int .u64 y] w fun e w' => e = .returned (.int .u64 ((x + y) % 18446744073709551616)) ∧ w = w' := by
  go_enter Try.func37, Try.ntmps37
  go_wp2
  go_ret
  exact ⟨bl.ret1 (bl.int_eq (IntKind.wrap_u64 _)), rfl⟩
theorem fn2 (x y : Int) (w : World) (x0 : 0 ≤ x) (x1 : x < 18446744073709551616) (y0 : 0 ≤ y) (y1 : y < 18446744073709551616) : Calls Try.prog 38 #[.int .u64 x, .int .u64 y] w fun e w' => e = .returned (.int .u64 ((x - y) % 18446744073709551616)) ∧ w = w' := by
  go_enter Try.func38, Try.ntmps38
  go_wp2
  go_ret
  exact ⟨bl.ret1 (bl.int_eq (IntKind.wrap_u64 _)), rfl⟩
theorem fn3 (x y : Int) (w : World) (x0 : 0 ≤ x) (x1 : x < 18446744073709551616) (y0 : 0 ≤ y) (y1 : y < 18446744073709551616) : Calls Try.prog 39 #[.int .u64 x, .int .u64 y] w fun e w' => e = .returned (.int .u64 (x * y % 18446744073709551616)) ∧ w = w' := by
  go_enter Try.func39, Try.ntmps39
  go_wp2
  go_ret
  exact ⟨bl.ret1 (bl.int_eq (IntKind.wrap_u64 _)), rfl⟩
theorem fn4 (x y : Int) (w : World) (x0 : 0 ≤ x) (x1 : x < 18446744073709551616) (y0 : 0 ≤ y) (y1 : y < 18446744073709551616) : Calls Try.prog 40 #[.int .u64 x, .int .u64 y] w fun e w' => e = .returned (.int .u64 (wd.mulh x y true true)) ∧ w = w' := by
  go_enter Try.func40, Try.ntmps40
  go_wp2_with fail
  refine (mulh_ss x y _ x0 x1 y0 y1).mono ?_
  rintro e w' ⟨rfl, rfl⟩
  go_wp2
  go_ret
  exact ⟨rfl, rfl⟩
theorem fn5 (x y : Int) (w : World) (x0 : 0 ≤ x) (x1 : x < 18446744073709551616) (y0 : 0 ≤ y) (y1 : y < 18446744073709551616) : Calls Try.prog 42 #[.int .u64 x, .int .u64 y] w fun e w' => e = .returned (.int .u64 (wd.mulh x y false false)) ∧ w = w' := by
  go_enter Try.func42, Try.ntmps42
  go_wp2_with fail
  refine (mulh_uu x y _ x0 x1 y0 y1).mono ?_
  rintro e w' ⟨rfl, rfl⟩
  go_wp2
  go_ret
  exact ⟨rfl, rfl⟩
theorem fn6 (x y : Int) (w : World) (x0 : 0 ≤ x) (x1 : x < 18446744073709551616) (y0 : 0 ≤ y) (y1 : y < 18446744073709551616) : Calls Try.prog 43 #[.int .u64 x, .int .u64 y] w fun e w' => e = .returned (.int .u64 (wd.mulh x y true false)) ∧ w = w' := by
  go_enter Try.func43, Try.ntmps43
  go_wp2_with fail
  refine (mulh_su x y _ x0 x1 y0 y1).mono ?_
  rintro e w' ⟨rfl, rfl⟩
  go_wp2
  go_ret
  exact ⟨rfl, rfl⟩
theorem fn11 (x y : Int) (w : World) (x0 : 0 ≤ x) (x1 : x < 18446744073709551616) (y0 : 0 ≤ y) (y1 : y < 18446744073709551616) : Calls Try.prog 48 #[.int .u64 x, .int .u64 y] w fun e w' => e = .returned (.int .u64 (bits .and .u64 x y)) ∧ w = w' := by
  go_enter Try.func48, Try.ntmps48
  go_wp2
  go_ret
  exact ⟨rfl, rfl⟩
theorem fn12 (x y : Int) (w : World) (x0 : 0 ≤ x) (x1 : x < 18446744073709551616) (y0 : 0 ≤ y) (y1 : y < 18446744073709551616) : Calls Try.prog 49 #[.int .u64 x, .int .u64 y] w fun e w' => e = .returned (.int .u64 (bits .or .u64 x y)) ∧ w = w' := by
  go_enter Try.func49, Try.ntmps49
  go_wp2
  go_ret
  exact ⟨rfl, rfl⟩
theorem fn13 (x y : Int) (w : World) (x0 : 0 ≤ x) (x1 : x < 18446744073709551616) (y0 : 0 ≤ y) (y1 : y < 18446744073709551616) : Calls Try.prog 50 #[.int .u64 x, .int .u64 y] w fun e w' => e = .returned (.int .u64 (bits .xor .u64 x y)) ∧ w = w' := by
  go_enter Try.func50, Try.ntmps50
  go_wp2
  go_ret
  exact ⟨rfl, rfl⟩
theorem fn14 (x y : Int) (w : World) (x0 : 0 ≤ x) (x1 : x < 18446744073709551616) (y0 : 0 ≤ y) (y1 : y < 18446744073709551616) : Calls Try.prog 51 #[.int .u64 x, .int .u64 y] w fun e w' => e = .returned (.int .u64 (wd.shl x (y % 64))) ∧ w = w' := by
  go_enter Try.func51, Try.ntmps51
  go_wp2
  go_ret
  exact ⟨bl.ret1 (bl.int_eq (IntKind.wrap_u64 _)), rfl⟩
theorem fn15 (x y : Int) (w : World) (x0 : 0 ≤ x) (x1 : x < 18446744073709551616) (y0 : 0 ≤ y) (y1 : y < 18446744073709551616) : Calls Try.prog 52 #[.int .u64 x, .int .u64 y] w fun e w' => e = .returned (.int .u64 (wd.shr x (y % 64))) ∧ w = w' := by
  go_enter Try.func52, Try.ntmps52
  go_wp2
  go_ret
  exact ⟨rfl, rfl⟩
theorem fn16 (x y : Int) (w : World) (x0 : 0 ≤ x) (x1 : x < 18446744073709551616) (y0 : 0 ≤ y) (y1 : y < 18446744073709551616) : Calls Try.prog 53 #[.int .u64 x, .int .u64 y] w fun e w' => e = .returned (.int .u64 (wd.sar x (y % 64))) ∧ w = w' := by
  go_enter Try.func53, Try.ntmps53
  go_wp2
  go_ret
  exact ⟨bl.ret1 (bl.int_eq (IntKind.wrap_u64 _)), rfl⟩
theorem flag_any (b : Bool) (w : World) : Calls Try.prog 55 #[.bool b] w fun e w' => e = .returned (.int .u64 (wd.bit b)) ∧ w = w' := by
  cases b
  · go_enter Try.func55, Try.ntmps55
    go_wp2
    go_ret
    exact ⟨rfl, rfl⟩
  · go_enter Try.func55, Try.ntmps55
    go_wp2
    go_ret
    exact ⟨rfl, rfl⟩
theorem fn17 (x y : Int) (w : World) (x0 : 0 ≤ x) (x1 : x < 18446744073709551616) (y0 : 0 ≤ y) (y1 : y < 18446744073709551616) : Calls Try.prog 54 #[.int .u64 x, .int .u64 y] w fun e w' => e = .returned (.int .u64 (wd.bit (decide (wrap64 x < wrap64 y)))) ∧ w = w' := by
  go_enter Try.func54, Try.ntmps54
  go_wp2_with fail
  refine (flag_any _ _).mono ?_
  rintro e w' ⟨rfl, rfl⟩
  go_wp2
  go_ret
  exact ⟨rfl, rfl⟩
theorem fn18 (x y : Int) (w : World) (x0 : 0 ≤ x) (x1 : x < 18446744073709551616) (y0 : 0 ≤ y) (y1 : y < 18446744073709551616) : Calls Try.prog 56 #[.int .u64 x, .int .u64 y] w fun e w' => e = .returned (.int .u64 (wd.bit (decide (x < y)))) ∧ w = w' := by
  go_enter Try.func56, Try.ntmps56
  go_wp2_with fail
  refine (flag_any _ _).mono ?_
  rintro e w' ⟨rfl, rfl⟩
  go_wp2
  go_ret
  exact ⟨rfl, rfl⟩
theorem fn19 (x y : Int) (w : World) (x0 : 0 ≤ x) (x1 : x < 18446744073709551616) (y0 : 0 ≤ y) (y1 : y < 18446744073709551616) : Calls Try.prog 57 #[.int .u64 x, .int .u64 y] w fun e w' => e = .returned (.int .u64 (wd.bit (x == y))) ∧ w = w' := by
  go_enter Try.func57, Try.ntmps57
  go_wp2_with fail
  refine (flag_any _ _).mono ?_
  rintro e w' ⟨rfl, rfl⟩
  go_wp2
  go_ret
  exact ⟨rfl, rfl⟩
theorem fn20 (x y : Int) (w : World) (x0 : 0 ≤ x) (x1 : x < 18446744073709551616) (y0 : 0 ≤ y) (y1 : y < 18446744073709551616) : Calls Try.prog 58 #[.int .u64 x, .int .u64 y] w fun e w' => e = .returned (.int .u64 (wd.bit (x != y))) ∧ w = w' := by
  go_enter Try.func58, Try.ntmps58
  go_wp2_with fail
  refine (flag_any _ _).mono ?_
  rintro e w' ⟨rfl, rfl⟩
  go_wp2
  go_ret
  exact ⟨rfl, rfl⟩
theorem wd_neg1 (x : Int) (x0 : 0 ≤ x) (x1 : x < 18446744073709551616) : -x % 18446744073709551616 = (wrap64 x).tdiv (-1) % 18446744073709551616 := by
  have e : (wrap64 x).tdiv (-1) = -(wrap64 x) := by rw [Int.tdiv_neg, Int.tdiv_one]
  rw [e]
  unfold wrap64
  omega
theorem fn7 (x y : Int) (w : World) (x0 : 0 ≤ x) (x1 : x < 18446744073709551616) (y0 : 0 ≤ y) (y1 : y < 18446744073709551616) : Calls Try.prog 44 #[.int .u64 x, .int .u64 y] w fun e w' => e = .returned (.int .u64 (wd.divS x y)) ∧ w = w' := by
  by_cases hy : y = 0
  · subst hy
    go_enter Try.func44, Try.ntmps44
    go_wp2
    go_ret
    exact ⟨rfl, rfl⟩
  · have hw : ¬ wrap64 y = 0 := by unfold wrap64; omega
    have hw0 : (wrap64 y == 0) = false := by simpa using hw
    by_cases hn : wrap64 y = -1
    · have hn1 : (wrap64 y == -1) = true := by rw [hn]; rfl
      have HN := bl.hid hn
      have HY := bl.hid hy
      clear hn hy
      go_enter Try.func44, Try.ntmps44
      go_wp2
      go_ret
      exact ⟨bl.ret1 (bl.int_eq (by rw [wd.divS, if_neg HY.out, HN.out, ← wd_neg1 x x0 x1, IntKind.wrap_u64])), rfl⟩
    · have hn1 : (wrap64 y == -1) = false := by simpa using hn
      have HY := bl.hid hy
      clear hn hy
      go_enter Try.func44, Try.ntmps44
      go_wp2
      go_ret
      exact ⟨bl.ret1 (bl.int_eq (by rw [wd.divS, if_neg HY.out, IntKind.wrap_u64]; unfold wrap64; omega)), rfl⟩
theorem fn9 (x y : Int) (w : World) (x0 : 0 ≤ x) (x1 : x < 18446744073709551616) (y0 : 0 ≤ y) (y1 : y < 18446744073709551616) : Calls Try.prog 46 #[.int .u64 x, .int .u64 y] w fun e w' => e = .returned (.int .u64 (wd.remS x y)) ∧ w = w' := by
  by_cases hy : y = 0
  · subst hy
    go_enter Try.func46, Try.ntmps46
    go_wp2
    go_ret
    exact ⟨rfl, rfl⟩
  · have hw : ¬ wrap64 y = 0 := by unfold wrap64; omega
    have hw0 : (wrap64 y == 0) = false := by simpa using hw
    by_cases hn : wrap64 y = -1
    · have hn1 : (wrap64 y == -1) = true := by rw [hn]; rfl
      have HN := bl.hid hn
      have HY := bl.hid hy
      clear hn hy
      go_enter Try.func46, Try.ntmps46
      go_wp2
      go_ret
      exact ⟨bl.ret1 (bl.int_eq (by rw [wd.remS, if_neg HY.out, HN.out, Int.tmod_neg, Int.tmod_one]; rfl)), rfl⟩
    · have hn1 : (wrap64 y == -1) = false := by simpa using hn
      have HY := bl.hid hy
      clear hn hy
      go_enter Try.func46, Try.ntmps46
      go_wp2
      go_ret
      exact ⟨bl.ret1 (bl.int_eq (by rw [wd.remS, if_neg HY.out, IntKind.wrap_u64])), rfl⟩
theorem fn8 (x y : Int) (w : World) (x0 : 0 ≤ x) (x1 : x < 18446744073709551616) (y0 : 0 ≤ y) (y1 : y < 18446744073709551616) : Calls Try.prog 45 #[.int .u64 x, .int .u64 y] w fun e w' => e = .returned (.int .u64 (wd.divU x y)) ∧ w = w' := by
  by_cases hy : y = 0
  · subst hy
    go_enter Try.func45, Try.ntmps45
    go_wp2
    go_ret
    exact ⟨rfl, rfl⟩
  · have hy0 : (y == 0) = false := by simpa using hy
    have HY := bl.hid hy
    go_enter Try.func45, Try.ntmps45
    go_wp2
    go_ret
    exact ⟨bl.ret1 (bl.int_eq (by rw [wd.divU, if_neg HY.out])), rfl⟩
theorem fn10 (x y : Int) (w : World) (x0 : 0 ≤ x) (x1 : x < 18446744073709551616) (y0 : 0 ≤ y) (y1 : y < 18446744073709551616) : Calls Try.prog 47 #[.int .u64 x, .int .u64 y] w fun e w' => e = .returned (.int .u64 (wd.remU x y)) ∧ w = w' := by
  by_cases hy : y = 0
  · subst hy
    go_enter Try.func47, Try.ntmps47
    go_wp2
    go_ret
    exact ⟨rfl, rfl⟩
  · have hy0 : (y == 0) = false := by simpa using hy
    have HY := bl.hid hy
    go_enter Try.func47, Try.ntmps47
    go_wp2
    go_ret
    exact ⟨bl.ret1 (bl.int_eq (by rw [wd.remU, if_neg HY.out])), rfl⟩

/-! ### the table, and Do -/
def fnsArr : Array Value := #[.nilFunc, .func (.func 37) #[] #[], .func (.func 38) #[] #[], .func (.func 39) #[] #[], .func (.func 40) #[] #[], .func (.func 42) #[] #[], .func (.func 43) #[] #[], .func (.func 44) #[] #[], .func (.func 45) #[] #[], .func (.func 46) #[] #[], .func (.func 47) #[] #[], .func (.func 48) #[] #[], .func (.func 49) #[] #[], .func (.func 50) #[] #[], .func (.func 51) #[] #[], .func (.func 52) #[] #[], .func (.func 53) #[] #[], .func (.func 54) #[] #[], .func (.func 56) #[] #[], .func (.func 57) #[] #[], .func (.func 58) #[] #[]]
theorem fnsArr_info : (Try.prog.info? 44).map (·.size) = some 21 := by kernel_rfl
theorem fnsArr_size : fnsArr.size = 21 := by rfl
theorem fnsArr_one : fnsArr.all (·.oneCell') = true := by decide +kernel
set_option maxRecDepth 100000 in
theorem functions_any (w : World) : Calls Try.prog 33 #[] w fun e w' => e = .returned (.agg fnsArr) ∧ Below w.heap.size w w' := by
  go_enter Try.func33, Try.ntmps33
  go_wp2_with (refine kt.wpList_store_row_new rfl 44 _ _ rfl rfl _ fnsArr rfl rfl fnsArr_info rfl fnsArr_one ?_)
  refine bodyPost_ret (results_cell_row rfl _ _ w.heap.size 44 fnsArr (0, 0) _ rfl (heap_alloc_last _ _) Try.underlying44 rfl fnsArr_info) rfl ?_
  exact ⟨rfl, kt.below_row _⟩
theorem idx1 (w : World) : (Instr.index 44 (.agg fnsArr) (.int .i64 1)).run Try.prog w = .ok (.func (.func 37) #[] #[]) w := by kernel_rfl
theorem do1 (x y : Int) (w : World) (x0 : 0 ≤ x) (x1 : x < 18446744073709551616) (y0 : 0 ≤ y) (y1 : y < 18446744073709551616) : Calls Try.prog 24 #[.int .i64 1, .int .u64 x, .int .u64 y] w fun e w' => e = .returned (.tuple #[.int .u64 (wd.doV 1 x y), .int .i64 0]) ∧ Below w.heap.size w w' := by
  have hi := idx1
  go_enter Try.func24, Try.ntmps24
  go_wp2_with fail
  refine (functions_any _).mono ?_
  rintro e wA ⟨rfl, hg⟩
  go_wp2_with fail
  refine (fn1 x y _ x0 x1 y0 y1).mono ?_
  rintro e w' ⟨rfl, rfl⟩
  go_wp2
  go_ret2
  exact ⟨rfl, hg⟩
theorem idx2 (w : World) : (Instr.index 44 (.agg fnsArr) (.int .i64 2)).run Try.prog w = .ok (.func (.func 38) #[] #[]) w := by kernel_rfl
theorem do2 (x y : Int) (w : World) (x0 : 0 ≤ x) (x1 : x < 18446744073709551616) (y0 : 0 ≤ y) (y1 : y < 18446744073709551616) : Calls Try.prog 24 #[.int .i64 2, .int .u64 x, .int .u64 y] w fun e w' => e = .returned (.tuple #[.int .u64 (wd.doV 2 x y), .int .i64 0]) ∧ Below w.heap.size w w' := by
  have hi := idx2
  go_enter Try.func24, Try.ntmps24
  go_wp2_with fail
  refine (functions_any _).mono ?_
  rintro e wA ⟨rfl, hg⟩
  go_wp2_with fail
  refine (fn2 x y _ x0 x1 y0 y1).mono ?_
  rintro e w' ⟨rfl, rfl⟩
  go_wp2
  go_ret2
  exact ⟨rfl, hg⟩
theorem idx3 (w : World) : (Instr.index 44 (.agg fnsArr) (.int .i64 3)).run Try.prog w = .ok (.func (.func 39) #[] #[]) w := by kernel_rfl
theorem do3 (x y : Int) (w : World) (x0 : 0 ≤ x) (x1 : x < 18446744073709551616) (y0 : 0 ≤ y) (y1 : y < 18446744073709551616) : Calls Try.prog 24 #[.int .i64 3, .int .u64 x, .int .u64 y] w fun e w' => e = .returned (.tuple #[.int .u64 (wd.doV 3 x y), .int .i64 0]) ∧ Below w.heap.size w w' := by
  have hi := idx3
  go_enter Try.func24, Try.ntmps24
  go_wp2_with fail
  refine (functions_any _).mono ?_
  rintro e wA ⟨rfl, hg⟩
  go_wp2_with fail
  refine (fn3 x y _ x0 x1 y0 y1).mono ?_
  rintro e w' ⟨rfl, rfl⟩
  go_wp2
  go_ret2
  exact ⟨rfl, hg⟩
theorem idx4 (w : World) : (Instr.index 44 (.agg fnsArr) (.int .i64 4)).run Try.prog w = .ok (.func (.func 40) #[] #[]) w := by kernel_rfl
theorem do4 (x y : Int) (w : World) (x0 : 0 ≤ x) (x1 : x < 18446744073709551616) (y0 : 0 ≤ y) (y1 : y < 18446744073709551616) : Calls Try.prog 24 #[.int .i64 4, .int .u64 x, .int .u64 y] w fun e w' => e = .returned (.tuple #[.int .u64 (wd.doV 4 x y), .int .i64 0]) ∧ Below w.heap.size w w' := by
  have hi := idx4
  go_enter Try.func24, Try.ntmps24
  go_wp2_with fail
  refine (functions_any _).mono ?_
  rintro e wA ⟨rfl, hg⟩
  go_wp2_with fail
  refine (fn4 x y _ x0 x1 y0 y1).mono ?_
  rintro e w' ⟨rfl, rfl⟩
  go_wp2
  go_ret2
  exact ⟨rfl, hg⟩
theorem idx5 (w : World) : (Instr.index 44 (.agg fnsArr) (.int .i64 5)).run Try.prog w = .ok (.func (.func 42) #[] #[]) w := by kernel_rfl
theorem do5 (x y : Int) (w : World) (x0 : 0 ≤ x) (x1 : x < 18446744073709551616) (y0 : 0 ≤ y) (y1 : y < 18446744073709551616) : Calls Try.prog 24 #[.int .i64 5, .int .u64 x, .int .u64 y] w fun e w' => e = .returned (.tuple #[.int .u64 (wd.doV 5 x y), .int .i64 0]) ∧ Below w.heap.size w w' := by
  have hi := idx5
  go_enter Try.func24, Try.ntmps24
  go_wp2_with fail
  refine (functions_any _).mono ?_
  rintro e wA ⟨rfl, hg⟩
  go_wp2_with fail
  refine (fn5 x y _ x0 x1 y0 y1).mono ?_
  rintro e w' ⟨rfl, rfl⟩
  go_wp2
  go_ret2
  exact ⟨rfl, hg⟩
theorem idx6 (w : World) : (Instr.index 44 (.agg fnsArr) (.int .i64 6)).run Try.prog w = .ok (.func (.func 43) #[] #[]) w := by kernel_rfl
theorem do6 (x y : Int) (w : World) (x0 : 0 ≤ x) (x1 : x < 18446744073709551616) (y0 : 0 ≤ y) (y1 : y < 18446744073709551616) : Calls Try.prog 24 #[.int .i64 6, .int .u64 x, .int .u64 y] w fun e w' => e = .returned (.tuple #[.int .u64 (wd.doV 6 x y), .int .i64 0]) ∧ Below w.heap.size w w' := by
  have hi := idx6
  go_enter Try.func24, Try.ntmps24
  go_wp2_with fail
  refine (functions_any _).mono ?_
  rintro e wA ⟨rfl, hg⟩
  go_wp2_with fail
  refine (fn6 x y _ x0 x1 y0 y1).mono ?_
  rintro e w' ⟨rfl, rfl⟩
  go_wp2
  go_ret2
  exact ⟨rfl, hg⟩
theorem idx7 (w : World) : (Instr.index 44 (.agg fnsArr) (.int .i64 7)).run Try.prog w = .ok (.func (.func 44) #[] #[]) w := by kernel_rfl
theorem do7 (x y : Int) (w : World) (x0 : 0 ≤ x) (x1 : x < 18446744073709551616) (y0 : 0 ≤ y) (y1 : y < 18446744073709551616) : Calls Try.prog 24 #[.int .i64 7, .int .u64 x, .int .u64 y] w fun e w' => e = .returned (.tuple #[.int .u64 (wd.doV 7 x y), .int .i64 0]) ∧ Below w.heap.size w w' := by
  have hi := idx7
  go_enter Try.func24, Try.ntmps24
  go_wp2_with fail
  refine (functions_any _).mono ?_
  rintro e wA ⟨rfl, hg⟩
  go_wp2_with fail
  refine (fn7 x y _ x0 x1 y0 y1).mono ?_
  rintro e w' ⟨rfl, rfl⟩
  go_wp2
  go_ret2
  exact ⟨rfl, hg⟩
theorem idx8 (w : World) : (Instr.index 44 (.agg fnsArr) (.int .i64 8)).run Try.prog w = .ok (.func (.func 45) #[] #[]) w := by kernel_rfl
theorem do8 (x y : Int) (w : World) (x0 : 0 ≤ x) (x1 : x < 18446744073709551616) (y0 : 0 ≤ y) (y1 : y < 18446744073709551616) : Calls Try.prog 24 #[.int .i64 8, .int .u64 x, .int .u64 y] w fun e w' => e = .returned (.tuple #[.int .u64 (wd.doV 8 x y), .int .i64 0]) ∧ Below w.heap.size w w' := by
  have hi := idx8
  go_enter Try.func24, Try.ntmps24
  go_wp2_with fail
  refine (functions_any _).mono ?_
  rintro e wA ⟨rfl, hg⟩
  go_wp2_with fail
  refine (fn8 x y _ x0 x1 y0 y1).mono ?_
  rintro e w' ⟨rfl, rfl⟩
  go_wp2
  go_ret2
  exact ⟨rfl, hg⟩
theorem idx9 (w : World) : (Instr.index 44 (.agg fnsArr) (.int .i64 9)).run Try.prog w = .ok (.func (.func 46) #[] #[]) w := by kernel_rfl
theorem do9 (x y : Int) (w : World) (x0 : 0 ≤ x) (x1 : x < 18446744073709551616) (y0 : 0 ≤ y) (y1 : y < 18446744073709551616) : Calls Try.prog 24 #[.int .i64 9, .int .u64 x, .int .u64 y] w fun e w' => e = .returned (.tuple #[.int .u64 (wd.doV 9 x y), .int .i64 0]) ∧ Below w.heap.size w w' := by
  have hi := idx9
  go_enter Try.func24, Try.ntmps24
  go_wp2_with fail
  refine (functions_any _).mono ?_
  rintro e wA ⟨rfl, hg⟩
  go_wp2_with fail
  refine (fn9 x y _ x0 x1 y0 y1).mono ?_
  rintro e w' ⟨rfl, rfl⟩
  go_wp2
  go_ret2
  exact ⟨rfl, hg⟩
theorem idx10 (w : World) : (Instr.index 44 (.agg fnsArr) (.int .i64 10)).run Try.prog w = .ok (.func (.func 47) #[] #[]) w := by kernel_rfl
theorem do10 (x y : Int) (w : World) (x0 : 0 ≤ x) (x1 : x < 18446744073709551616) (y0 : 0 ≤ y) (y1 : y < 18446744073709551616) : Calls Try.prog 24 #[.int .i64 10, .int .u64 x, .int .u64 y] w fun e w' => e = .returned (.tuple #[.int .u64 (wd.doV 10 x y), .int .i64 0]) ∧ Below w.heap.size w w' := by
  have hi := idx10
  go_enter Try.func24, Try.ntmps24
  go_wp2_with fail
  refine (functions_any _).mono ?_
  rintro e wA ⟨rfl, hg⟩
  go_wp2_with fail
  refine (fn10 x y _ x0 x1 y0 y1).mono ?_
  rintro e w' ⟨rfl, rfl⟩
  go_wp2
  go_ret2
  exact ⟨rfl, hg⟩
theorem idx11 (w : World) : (Instr.index 44 (.agg fnsArr) (.int .i64 11)).run Try.prog w = .ok (.func (.func 48) #[] #[]) w := by kernel_rfl
theorem do11 (x y : Int) (w : World) (x0 : 0 ≤ x) (x1 : x < 18446744073709551616) (y0 : 0 ≤ y) (y1 : y < 18446744073709551616) : Calls Try.prog 24 #[.int .i64 11, .int .u64 x, .int .u64 y] w fun e w' => e = .returned (.tuple #[.int .u64 (wd.doV 11 x y), .int .i64 0]) ∧ Below w.heap.size w w' := by
  have hi := idx11
  go_enter Try.func24, Try.ntmps24
  go_wp2_with fail
  refine (functions_any _).mono ?_
  rintro e wA ⟨rfl, hg⟩
  go_wp2_with fail
  refine (fn11 x y _ x0 x1 y0 y1).mono ?_
  rintro e w' ⟨rfl, rfl⟩
  go_wp2
  go_ret2
  exact ⟨rfl, hg⟩
theorem idx12 (w : World) : (Instr.index 44 (.agg fnsArr) (.int .i64 12)).run Try.prog w = .ok (.func (.func 49) #[] #[]) w := by kernel_rfl
theorem do12 (x y : Int) (w : World) (x0 : 0 ≤ x) (x1 : x < 18446744073709551616) (y0 : 0 ≤ y) (y1 : y < 18446744073709551616) : Calls Try.prog 24 #[.int .i64 12, .int .u64 x, .int .u64 y] w fun e w' => e = .returned (.tuple #[.int .u64 (wd.doV 12 x y), .int .i64 0]) ∧ Below w.heap.size w w' := by
  have hi := idx12
  go_enter Try.func24, Try.ntmps24
  go_wp2_with fail
  refine (functions_any _).mono ?_
  rintro e wA ⟨rfl, hg⟩
  go_wp2_with fail
  refine (fn12 x y _ x0 x1 y0 y1).mono ?_
  rintro e w' ⟨rfl, rfl⟩
  go_wp2
  go_ret2
  exact ⟨rfl, hg⟩
theorem idx13 (w : World) : (Instr.index 44 (.agg fnsArr) (.int .i64 13)).run Try.prog w = .ok (.func (.func 50) #[] #[]) w := by kernel_rfl
theorem do13 (x y : Int) (w : World) (x0 : 0 ≤ x) (x1 : x < 18446744073709551616) (y0 : 0 ≤ y) (y1 : y < 18446744073709551616) : Calls Try.prog 24 #[.int .i64 13, .int .u64 x, .int .u64 y] w fun e w' => e = .returned (.tuple #[.int .u64 (wd.doV 13 x y), .int .i64 0]) ∧ Below w.heap.size w w' := by
  have hi := idx13
  go_enter Try.func24, Try.ntmps24
  go_wp2_with fail
  refine (functions_any _).mono ?_
  rintro e wA ⟨rfl, hg⟩
  go_wp2_with fail
  refine (fn13 x y _ x0 x1 y0 y1).mono ?_
  rintro e w' ⟨rfl, rfl⟩
  go_wp2
  go_ret2
  exact ⟨rfl, hg⟩
theorem idx14 (w : World) : (Instr.index 44 (.agg fnsArr) (.int .i64 14)).run Try.prog w = .ok (.func (.func 51) #[] #[]) w := by kernel_rfl
theorem do14 (x y : Int) (w : World) (x0 : 0 ≤ x) (x1 : x < 18446744073709551616) (y0 : 0 ≤ y) (y1 : y < 18446744073709551616) : Calls Try.prog 24 #[.int .i64 14, .int .u64 x, .int .u64 y] w fun e w' => e = .returned (.tuple #[.int .u64 (wd.doV 14 x y), .int .i64 0]) ∧ Below w.heap.size w w' := by
  have hi := idx14
  go_enter Try.func24, Try.ntmps24
  go_wp2_with fail
  refine (functions_any _).mono ?_
  rintro e wA ⟨rfl, hg⟩
  go_wp2_with fail
  refine (fn14 x y _ x0 x1 y0 y1).mono ?_
  rintro e w' ⟨rfl, rfl⟩
  go_wp2
  go_ret2
  exact ⟨rfl, hg⟩
theorem idx15 (w : World) : (Instr.index 44 (.agg fnsArr) (.int .i64 15)).run Try.prog w = .ok (.func (.func 52) #[] #[]) w := by kernel_rfl
theorem do15 (x y : Int) (w : World) (x0 : 0 ≤ x) (x1 : x < 18446744073709551616) (y0 : 0 ≤ y) (y1 : y < 18446744073709551616) : Calls Try.prog 24 #[.int .i64 15, .int .u64 x, .int .u64 y] w fun e w' => e = .returned (.tuple #[.int .u64 (wd.doV 15 x y), .int .i64 0]) ∧ Below w.heap.size w w' := by
  have hi := idx15
  go_enter Try.func24, Try.ntmps24
  go_wp2_with fail
  refine (functions_any _).mono ?_
  rintro e wA ⟨rfl, hg⟩
  go_wp2_with fail
  refine (fn15 x y _ x0 x1 y0 y1).mono ?_
  rintro e w' ⟨rfl, rfl⟩
  go_wp2
  go_ret2
  exact ⟨rfl, hg⟩
theorem idx16 (w : World) : (Instr.index 44 (.agg fnsArr) (.int .i64 16)).run Try.prog w = .ok (.func (.func 53) #[] #[]) w := by kernel_rfl
theorem do16 (x y : Int) (w : World) (x0 : 0 ≤ x) (x1 : x < 18446744073709551616) (y0 : 0 ≤ y) (y1 : y < 18446744073709551616) : Calls Try.prog 24 #[.int .i64 16, .int .u64 x, .int .u64 y] w fun e w' => e = .returned (.tuple #[.int .u64 (wd.doV 16 x y), .int .i64 0]) ∧ Below w.heap.size w w' := by
  have hi := idx16
  go_enter Try.func24, Try.ntmps24
  go_wp2_with fail
  refine (functions_any _).mono ?_
  rintro e wA ⟨rfl, hg⟩
  go_wp2_with fail
  refine (fn16 x y _ x0 x1 y0 y1).mono ?_
  rintro e w' ⟨rfl, rfl⟩
  go_wp2
  go_ret2
  exact ⟨rfl, hg⟩
theorem idx17 (w : World) : (Instr.index 44 (.agg fnsArr) (.int .i64 17)).run Try.prog w = .ok (.func (.func 54) #[] #[]) w := by kernel_rfl
theorem do17 (x y : Int) (w : World) (x0 : 0 ≤ x) (x1 : x < 18446744073709551616) (y0 : 0 ≤ y) (y1 : y < 18446744073709551616) : Calls Try.prog 24 #[.int .i64 17, .int .u64 x, .int .u64 y] w fun e w' => e = .returned (.tuple #[.int .u64 (wd.doV 17 x y), .int .i64 0]) ∧ Below w.heap.size w w' := by
  have hi := idx17
  go_enter Try.func24, Try.ntmps24
  go_wp2_with fail
  refine (functions_any _).mono ?_
  rintro e wA ⟨rfl, hg⟩
  go_wp2_with fail
  refine (fn17 x y _ x0 x1 y0 y1).mono ?_
  rintro e w' ⟨rfl, rfl⟩
  go_wp2
  go_ret2
  exact ⟨rfl, hg⟩
theorem idx18 (w : World) : (Instr.index 44 (.agg fnsArr) (.int .i64 18)).run Try.prog w = .ok (.func (.func 56) #[] #[]) w := by kernel_rfl
theorem do18 (x y : Int) (w : World) (x0 : 0 ≤ x) (x1 : x < 18446744073709551616) (y0 : 0 ≤ y) (y1 : y < 18446744073709551616) : Calls Try.prog 24 #[.int .i64 18, .int .u64 x, .int .u64 y] w fun e w' => e = .returned (.tuple #[.int .u64 (wd.doV 18 x y), .int .i64 0]) ∧ Below w.heap.size w w' := by
  have hi := idx18
  go_enter Try.func24, Try.ntmps24
  go_wp2_with fail
  refine (functions_any _).mono ?_
  rintro e wA ⟨rfl, hg⟩
  go_wp2_with fail
  refine (fn18 x y _ x0 x1 y0 y1).mono ?_
  rintro e w' ⟨rfl, rfl⟩
  go_wp2
  go_ret2
  exact ⟨rfl, hg⟩
theorem idx19 (w : World) : (Instr.index 44 (.agg fnsArr) (.int .i64 19)).run Try.prog w = .ok (.func (.func 57) #[] #[]) w := by kernel_rfl
theorem do19 (x y : Int) (w : World) (x0 : 0 ≤ x) (x1 : x < 18446744073709551616) (y0 : 0 ≤ y) (y1 : y < 18446744073709551616) : Calls Try.prog 24 #[.int .i64 19, .int .u64 x, .int .u64 y] w fun e w' => e = .returned (.tuple #[.int .u64 (wd.doV 19 x y), .int .i64 0]) ∧ Below w.heap.size w w' := by
  have hi := idx19
  go_enter Try.func24, Try.ntmps24
  go_wp2_with fail
  refine (functions_any _).mono ?_
  rintro e wA ⟨rfl, hg⟩
  go_wp2_with fail
  refine (fn19 x y _ x0 x1 y0 y1).mono ?_
  rintro e w' ⟨rfl, rfl⟩
  go_wp2
  go_ret2
  exact ⟨rfl, hg⟩
theorem idx20 (w : World) : (Instr.index 44 (.agg fnsArr) (.int .i64 20)).run Try.prog w = .ok (.func (.func 58) #[] #[]) w := by kernel_rfl
theorem do20 (x y : Int) (w : World) (x0 : 0 ≤ x) (x1 : x < 18446744073709551616) (y0 : 0 ≤ y) (y1 : y < 18446744073709551616) : Calls Try.prog 24 #[.int .i64 20, .int .u64 x, .int .u64 y] w fun e w' => e = .returned (.tuple #[.int .u64 (wd.doV 20 x y), .int .i64 0]) ∧ Below w.heap.size w w' := by
  have hi := idx20
  go_enter Try.func24, Try.ntmps24
  go_wp2_with fail
  refine (functions_any _).mono ?_
  rintro e wA ⟨rfl, hg⟩
  go_wp2_with fail
  refine (fn20 x y _ x0 x1 y0 y1).mono ?_
  rintro e w' ⟨rfl, rfl⟩
  go_wp2
  go_ret2
  exact ⟨rfl, hg⟩
theorem do_no (f x y : Int) (w : World) (h : f < 1 ∨ 20 < f) : Calls Try.prog 24 #[.int .i64 f, .int .u64 x, .int .u64 y] w fun e w' => e = .returned (.tuple #[.int .u64 0, .int .i64 2]) ∧ w = w' := by
  go_enter Try.func24, Try.ntmps24
  go_wp2
  all_goals (go_ret2; exact ⟨rfl, rfl⟩)
theorem do_any (f x y : Int) (w : World) (x0 : 0 ≤ x) (x1 : x < 18446744073709551616) (y0 : 0 ≤ y) (y1 : y < 18446744073709551616) :
    Calls Try.prog 24 #[.int .i64 f, .int .u64 x, .int .u64 y] w fun e w' => e = .returned (.tuple #[.int .u64 (wd.doV f x y), .int .i64 (wd.doE f)]) ∧ Below w.heap.size w w' := by
  by_cases h : 1 ≤ f ∧ f ≤ 20
  · rw [wd.doE_of h]
    have : f = 1 ∨ f = 2 ∨ f = 3 ∨ f = 4 ∨ f = 5 ∨ f = 6 ∨ f = 7 ∨ f = 8 ∨ f = 9 ∨ f = 10 ∨ f = 11 ∨ f = 12 ∨ f = 13 ∨ f = 14 ∨ f = 15 ∨ f = 16 ∨ f = 17 ∨ f = 18 ∨ f = 19 ∨ f = 20 := by omega
    rcases this with rfl | rfl | rfl | rfl | rfl | rfl | rfl | rfl | rfl | rfl | rfl | rfl | rfl | rfl | rfl | rfl | rfl | rfl | rfl | rfl
    · exact do1 x y w x0 x1 y0 y1
    · exact do2 x y w x0 x1 y0 y1
    · exact do3 x y w x0 x1 y0 y1
    · exact do4 x y w x0 x1 y0 y1
    · exact do5 x y w x0 x1 y0 y1
    · exact do6 x y w x0 x1 y0 y1
    · exact do7 x y w x0 x1 y0 y1
    · exact do8 x y w x0 x1 y0 y1
    · exact do9 x y w x0 x1 y0 y1
    · exact do10 x y w x0 x1 y0 y1
    · exact do11 x y w x0 x1 y0 y1
    · exact do12 x y w x0 x1 y0 y1
    · exact do13 x y w x0 x1 y0 y1
    · exact do14 x y w x0 x1 y0 y1
    · exact do15 x y w x0 x1 y0 y1
    · exact do16 x y w x0 x1 y0 y1
    · exact do17 x y w x0 x1 y0 y1
    · exact do18 x y w x0 x1 y0 y1
    · exact do19 x y w x0 x1 y0 y1
    · exact do20 x y w x0 x1 y0 y1
  · rw [wd.doE_not h, wd.doV_not h]
    exact (do_no f x y w (by omega)).mono fun e w' q => ⟨q.1, q.2 ▸ Below.refl _ _⟩
end Go.Proofs.Ytimchannmigioaa
