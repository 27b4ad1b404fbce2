/- The word statements' own helpers: is, told, size, awake, each by a contract; WordKnown. -/
import Derived.Test.YtimchannmigioaaWGet
namespace Go.Proofs.Ytimchannmigioaa
open Go.RowKit
set_option linter.unusedVariables false

/-- bytes in new memory, their number a numeral -/
def BytesN (n : Nat) (l : List Int) (w : World) (e : Ending) (w' : World) : Prop :=
  ∃ a c, e = .returned (.tuple #[.slice a n c, .int .i64 0]) ∧ kt.Own kt.IsU8 w' w.heap.size 5 1 (.slice a n c) n (l.map (Value.int .u8)) ∧ Below w.heap.size w w'
theorem BytesPost.n {n : Nat} {l : List Int} {w : World} {e : Ending} {w' : World} (h : BytesPost l w e w') (hn : l.length = n) : BytesN n l w e w' := by
  subst hn
  exact h
theorem Rd_own {w : World} {B : Nat} {a : Option Addr} {n c : Nat} {l : List Int} (hl : wd.isBytes l) (h : kt.Own kt.IsU8 w B 5 1 (.slice a n c) n (l.map (Value.int .u8))) : kt.Rd w a n l := kt.Rd.own hl h.row
theorem Rd_new (w : World) (cs : Array Value) (t : TypeId) (n : Nat) (l : List Int) (hn : l.length = n) (hb : wd.isBytes l) (hc : cs = (l.map (Value.int .u8)).toArray) : kt.Rd (w.alloc (.cells cs t)) (some ⟨w.heap.size, 0, none⟩) n l := by
  refine ⟨hn, hb, .inr ⟨_, _, rfl, fun i hi => ?_⟩⟩
  have : i < l.length := by omega
  rw [Nat.zero_add, World.cell?_alloc_new, hc]
  simp [List.getD, this]
theorem is_yes (f x y v : Int) (w : World) (f0 : 1 ≤ f) (f1 : f ≤ 20) (x0 : 0 ≤ x) (x1 : x < 18446744073709551616) (y0 : 0 ≤ y) (y1 : y < 18446744073709551616) (hv : wd.doV f x y = v) :
    Calls Try.prog 28 #[.int .i64 f, .int .u64 x, .int .u64 y, .int .u64 v] w fun e w' => e = .returned (.bool true) ∧ Below w.heap.size w w' := by
  subst hv
  have he := wd.doE_of (fn := f) ⟨f0, f1⟩
  go_enter Try.func28, Try.ntmps28
  go_wp2_with fail
  refine (do_any f x y _ x0 x1 y0 y1).mono ?_
  rw [he]
  rintro e wA ⟨rfl, hg⟩
  go_wp2
  go_ret
  exact ⟨rfl, hg⟩
theorem told_any (f x y : Int) (w : World) (f0 : 1 ≤ f) (f1 : f ≤ 20) (x0 : 0 ≤ x) (x1 : x < 18446744073709551616) (y0 : 0 ≤ y) (y1 : y < 18446744073709551616) :
    Calls Try.prog 11 #[.int .i64 f, .int .u64 x, .int .u64 y] w fun e w' => e = .returned (.int .u64 (wd.doV f x y)) ∧ Below w.heap.size w w' := by
  have he := wd.doE_of (fn := f) ⟨f0, f1⟩
  go_enter Try.func11, Try.ntmps11
  go_wp2_with fail
  refine (do_any f x y _ x0 x1 y0 y1).mono ?_
  rw [he]
  rintro e wA ⟨rfl, hg⟩
  go_wp2
  go_ret
  exact ⟨rfl, hg⟩
theorem put_lit (x : Int) (n : Nat) (w : World) (x0 : 0 ≤ x) (x1 : x < 18446744073709551616) (h : n = 1 ∨ n = 2 ∨ n = 4 ∨ n = 8) : Calls Try.prog 13 #[.int .u64 x, .int .i64 n] w (BytesN n (wd.leB x n) w) := by
  rcases h with rfl | rfl | rfl | rfl
  · exact (put1 x w x0 x1).mono fun e w' q => q.n (wd.leB_length _ _)
  · exact (put2 x w x0 x1).mono fun e w' q => q.n (wd.leB_length _ _)
  · exact (put4 x w x0 x1).mono fun e w' q => q.n (wd.leB_length _ _)
  · exact (put8 x w x0 x1).mono fun e w' q => q.n (wd.leB_length _ _)
theorem rput_lit (x : Int) (n : Nat) (w : World) (x0 : 0 ≤ x) (x1 : x < 18446744073709551616) (h : n = 1 ∨ n = 2 ∨ n = 4 ∨ n = 8) : Calls Try.prog 14 #[.int .u64 x, .int .i64 n] w (BytesN n (wd.leB x n) w) := by
  rcases h with rfl | rfl | rfl | rfl
  · exact (rput1 x w x0 x1).mono fun e w' q => q.n (wd.leB_length _ _)
  · exact (rput2 x w x0 x1).mono fun e w' q => q.n (wd.leB_length _ _)
  · exact (rput4 x w x0 x1).mono fun e w' q => q.n (wd.leB_length _ _)
  · exact (rput8 x w x0 x1).mono fun e w' q => q.n (wd.leB_length _ _)
theorem sext_at (x n v : Int) (w : World) (x0 : 0 ≤ x) (x1 : x < 18446744073709551616) (hv : wd.sx x n = v) : Calls Try.prog 21 #[.int .u64 x, .int .i64 n] w fun e w' => e = .returned (.int .u64 v) ∧ w = w' := by
  rw [← hv]
  exact sext_any x n w x0 x1
theorem zext_at (x n v : Int) (w : World) (x0 : 0 ≤ x) (x1 : x < 18446744073709551616) (hv : wd.zx x n = v) : Calls Try.prog 19 #[.int .u64 x, .int .i64 n] w fun e w' => e = .returned (.int .u64 v) ∧ w = w' := by
  rw [← hv]
  exact zext_any x n w x0 x1
theorem get_at (a : Option Addr) (n c : Nat) (l : List Int) (v x : Int) (w : World) (h : kt.Rd w a n l) (hv : wd.getV l = v) (hx : wd.getE l = x) : Calls Try.prog 15 #[.slice a n c] w fun e w' => e = .returned (.tuple #[.int .u64 v, .int .i64 x]) ∧ w = w' := by
  rw [← hv, ← hx]
  exact get_any a n c l w h
theorem same_yes (a a' : Option Addr) (n n' c c' : Nat) (l l' : List Int) (w : World) (h : kt.Rd w a n l) (h' : kt.Rd w a' n' l') (e : l = l') : Calls Try.prog 17 #[.slice a n c, .slice a' n' c'] w fun e w' => e = .returned (.bool true) ∧ w = w' := by
  have := same_any a a' n n' c c' l l' w h h'
  rwa [decide_eq_true e] at this
set_option maxRecDepth 100000 in
set_option maxHeartbeats 800000 in
theorem awake_true (w : World) : Calls Try.prog 10 #[] w fun e w' => e = .returned (.bool true) ∧ Below w.heap.size w w' := by
  go_enter Try.func10, Try.ntmps10
  go_wp2_with fail
  refine (put_lit 258 2 _ (by omega) (by omega) (by omega)).mono ?_
  rintro e w1 ⟨a, c, rfl, hown, hb1⟩
  go_wp2_with fail
  refine (get_at _ 2 _ [2, 1] 258 0 _ (Rd_new _ _ _ _ _ rfl (by intro z hz; simp at hz; omega) rfl) (by decide) (by decide)).mono ?_
  rintro e w' ⟨rfl, rfl⟩
  go_wp2_with fail
  refine (is_yes 7 (18446744073709551609) (2) (18446744073709551613) _ (by omega) (by omega) (by omega) (by omega) (by omega) (by omega) (by decide +kernel)).mono ?_
  rintro e wA ⟨rfl, hgA⟩
  go_wp2_with fail
  refine (is_yes 5 (18446744073709551615) (18446744073709551615) (18446744073709551614) _ (by omega) (by omega) (by omega) (by omega) (by omega) (by omega) (by decide +kernel)).mono ?_
  rintro e wB ⟨rfl, hgB⟩
  go_wp2_with fail
  refine (sext_at 255 1 18446744073709551615 _ (by omega) (by omega) (by decide)).mono ?_
  rintro e w' ⟨rfl, rfl⟩
  have s1 : w1.heap.size ≤ wA.heap.size := by have := hgA.size; simp at this; omega
  have q1 : Below w1.heap.size w1 wB := ((kt.below_row _).trans (hgA.mono (by simp))).trans (hgB.mono s1)
  have q2 : Below w.heap.size w wB := hb1.trans (q1.mono hb1.size)
  go_wp2_with fail
  refine (same_yes _ _ 2 2 _ _ (wd.leB 258 2) [2, 1] _ (Rd_own (wd.leB_bytes _ _) ((hown.below q1 (Nat.le_refl _)).alloc _)) (Rd_new _ _ _ _ _ rfl (by intro z hz; simp at hz; omega) rfl) (by decide)).mono ?_
  rintro e w' ⟨rfl, rfl⟩
  go_wp2
  go_ret
  exact ⟨rfl, q2.alloc q2.size _⟩
theorem make9 (w : World) : (Instr.makeSlice 26 (.int .i64 9) (.int .i64 9)).run Try.prog w = .ok (.slice (some ⟨w.heap.size, 0, none⟩) 9 9) (w.alloc (.cells #[.int .u8 0, .int .u8 0, .int .u8 0, .int .u8 0, .int .u8 0, .int .u8 0, .int .u8 0, .int .u8 0, .int .u8 0] 5)) := by kernel_rfl
set_option maxRecDepth 100000 in
set_option maxHeartbeats 1600000 in
theorem known_walk (w : World) : Calls Try.prog 8 #[] w fun e w' => e = .returned (.bool true) ∧ Below w.heap.size w w' := by
  go_enter Try.func8, Try.ntmps8
  go_wp2_with fail
  refine (sext_at 127 1 127 _ (by omega) (by omega) (by decide)).mono ?_
  rintro e w' ⟨rfl, rfl⟩
  go_wp2_with fail
  refine (zext_at 18446744073709551615 4 4294967295 _ (by omega) (by omega) (by decide)).mono ?_
  rintro e w' ⟨rfl, rfl⟩
  go_wp2_with fail
  refine (sext_at 5 3 0 _ (by omega) (by omega) (by decide)).mono ?_
  rintro e w' ⟨rfl, rfl⟩
  go_wp2_with fail
  refine (is_yes 9 (18446744073709551609) (2) (18446744073709551615) _ (by omega) (by omega) (by omega) (by omega) (by omega) (by omega) (by decide +kernel)).mono ?_
  rintro e wA ⟨rfl, hgA⟩
  go_wp2_with fail
  refine (is_yes 7 (7) (0) (18446744073709551615) _ (by omega) (by omega) (by omega) (by omega) (by omega) (by omega) (by decide +kernel)).mono ?_
  rintro e wB ⟨rfl, hgB⟩
  replace hgB := hgA.trans (hgB.mono hgA.size)
  go_wp2_with fail
  refine (is_yes 9 (7) (0) (7) _ (by omega) (by omega) (by omega) (by omega) (by omega) (by omega) (by decide +kernel)).mono ?_
  rintro e wC ⟨rfl, hgC⟩
  replace hgC := hgB.trans (hgC.mono hgB.size)
  go_wp2_with fail
  refine (is_yes 7 (9223372036854775808) (18446744073709551615) (9223372036854775808) _ (by omega) (by omega) (by omega) (by omega) (by omega) (by omega) (by decide +kernel)).mono ?_
  rintro e wD ⟨rfl, hgD⟩
  replace hgD := hgC.trans (hgD.mono hgC.size)
  go_wp2_with fail
  refine (is_yes 4 (18446744073709551615) (18446744073709551615) (0) _ (by omega) (by omega) (by omega) (by omega) (by omega) (by omega) (by decide +kernel)).mono ?_
  rintro e wE ⟨rfl, hgE⟩
  replace hgE := hgD.trans (hgE.mono hgD.size)
  go_wp2_with fail
  refine (is_yes 6 (18446744073709551615) (18446744073709551615) (18446744073709551615) _ (by omega) (by omega) (by omega) (by omega) (by omega) (by omega) (by decide +kernel)).mono ?_
  rintro e wF ⟨rfl, hgF⟩
  replace hgF := hgE.trans (hgF.mono hgE.size)
  go_wp2_with fail
  refine (is_yes 16 (9223372036854775808) (63) (18446744073709551615) _ (by omega) (by omega) (by omega) (by omega) (by omega) (by omega) (by decide +kernel)).mono ?_
  rintro e wG ⟨rfl, hgG⟩
  replace hgG := hgF.trans (hgG.mono hgF.size)
  go_wp2_with fail
  refine (is_yes 14 (1) (65) (2) _ (by omega) (by omega) (by omega) (by omega) (by omega) (by omega) (by decide +kernel)).mono ?_
  rintro e wH ⟨rfl, hgH⟩
  replace hgH := hgG.trans (hgH.mono hgG.size)
  go_wp2_with fail
  refine (is_yes 17 (18446744073709551615) (0) (1) _ (by omega) (by omega) (by omega) (by omega) (by omega) (by omega) (by decide +kernel)).mono ?_
  rintro e wI ⟨rfl, hgI⟩
  replace hgI := hgH.trans (hgI.mono hgH.size)
  go_wp2_with fail
  refine (is_yes 18 (18446744073709551615) (0) (0) _ (by omega) (by omega) (by omega) (by omega) (by omega) (by omega) (by decide +kernel)).mono ?_
  rintro e wJ ⟨rfl, hgJ⟩
  replace hgJ := hgI.trans (hgJ.mono hgI.size)
  go_wp2_with fail
  refine (do_no 0 1 1 _ (by omega)).mono ?_
  rintro e w' ⟨rfl, rfl⟩
  go_wp2_with fail
  refine (half_any 1 2147483647 1 _ (by omega) (by omega) (by omega) (by omega)).mono ?_
  rw [show wd.halfV 1 2147483647 1 = 18446744071562067968 by decide +kernel, show wd.halfE 1 = 0 by decide]
  rintro e wK ⟨rfl, hgK⟩
  replace hgK := hgJ.trans (hgK.mono hgJ.size)
  go_wp2_with fail
  refine (half_no 13 1 1 _ (by omega) (by omega) (by omega) (by omega) (by omega)).mono ?_
  rintro e w' ⟨rfl, rfl⟩
  go_wp2_with fail
  refine (get_at none 0 0 [] 0 2 _ (kt.Rd.nil _ _) (by decide) (by decide)).mono ?_
  rintro e w' ⟨rfl, rfl⟩
  have hmk := make9
  go_wp2_with fail
  refine (get_long _ 9 9 _ (by omega)).mono ?_
  rintro e w' ⟨rfl, rfl⟩
  clear hmk
  go_wp2_with fail
  refine (awake_true _).mono ?_
  rintro e wL ⟨rfl, hgL⟩
  replace hgL := (hgK.alloc hgK.size _).trans (hgL.mono (by have := hgK.size; simp; omega))
  go_wp2
  go_ret
  exact ⟨rfl, hgL⟩
end Go.Proofs.Ytimchannmigioaa
