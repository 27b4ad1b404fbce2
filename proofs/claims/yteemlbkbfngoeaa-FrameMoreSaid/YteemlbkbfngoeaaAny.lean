/- The frame layer's functions for every input: one contract each, in the plain numbers of XPlain; the statements' own helpers. -/
import Derived.Test.YteemlbkbfngoeaaPush
namespace Go.Proofs.Yteemlbkbfngoeaa
open Go.RowKit
set_option linter.unusedVariables false
theorem floor_any (n : Int) (w : World) : Calls Try.prog 17 #[.int .i64 n] w fun e w' => e = .returned (.tuple #[.int .u64 (pl.flo n), .int .i64 (pl.floE n)]) ∧ w = w' := by
  by_cases h : 0 ≤ n ∧ n ≤ 8192
  · rw [show pl.flo n = (16 + n + 15) / 16 * 16 from if_pos (decide_eq_true h), show pl.floE n = 0 from if_pos (decide_eq_true h)]
    exact floor_ok n w h.1 h.2
  · rw [show pl.flo n = 0 from if_neg (by simp [h]), show pl.floE n = 2 from if_neg (by simp [h])]
    exact floor_no n w (by omega)
theorem rfloor_any (n : Int) (w : World) : Calls Try.prog 18 #[.int .i64 n] w fun e w' => e = .returned (.tuple #[.int .u64 (pl.flo n), .int .i64 (pl.floE n)]) ∧ w = w' := by
  by_cases h : 0 ≤ n ∧ n ≤ 8192
  · rw [show pl.flo n = (16 + n + 15) / 16 * 16 from if_pos (decide_eq_true h), show pl.floE n = 0 from if_pos (decide_eq_true h)]
    exact rfloor_ok n w h.1 h.2
  · rw [show pl.flo n = 0 from if_neg (by simp [h]), show pl.floE n = 2 from if_neg (by simp [h])]
    exact rfloor_no n w (by omega)
theorem top_any (n : Int) (w : World) : Calls Try.prog 19 #[.int .i64 n] w fun e w' => e = .returned (.tuple #[.int .u64 (pl.top n), .int .i64 (pl.topE n)]) ∧ w = w' := by
  by_cases h : 16 ≤ n ∧ n ≤ 65536
  · rw [show pl.top n = n / 16 * 16 from if_pos (decide_eq_true h), show pl.topE n = 0 from if_pos (decide_eq_true h)]
    exact top_ok n w h.1 h.2
  · rw [show pl.top n = 0 from if_neg (by simp [h]), show pl.topE n = 2 from if_neg (by simp [h])]
    exact top_no n w (by omega)
theorem rtop_any (n : Int) (w : World) : Calls Try.prog 20 #[.int .i64 n] w fun e w' => e = .returned (.tuple #[.int .u64 (pl.top n), .int .i64 (pl.topE n)]) ∧ w = w' := by
  by_cases h : 16 ≤ n ∧ n ≤ 65536
  · rw [show pl.top n = n / 16 * 16 from if_pos (decide_eq_true h), show pl.topE n = 0 from if_pos (decide_eq_true h)]
    exact rtop_ok n w h.1 h.2
  · rw [show pl.top n = 0 from if_neg (by simp [h]), show pl.topE n = 2 from if_neg (by simp [h])]
    exact rtop_no n w (by omega)
theorem push_any (t r a f : Int) (w : World) (t0 : 0 ≤ t) (f0 : 0 ≤ f) : Calls Try.prog 16 #[.int .u64 t, .int .i64 r, .int .i64 a, .int .u64 f] w fun e w' => e = .returned (.tuple #[.int .u64 (pl.psh t r a f), .int .i64 (pl.pshE t r a f)]) ∧ w = w' := by
  by_cases h : 0 ≤ r ∧ r ≤ 64 ∧ 0 ≤ a ∧ a ≤ 4096
  · have g := pl.okB_of h
    obtain ⟨h1, h2, h3, h4⟩ := h
    by_cases ht : t % 16 ≠ 0 ∨ 65536 < t
    · have gt := pl.oddB_of ht
      rw [show pl.psh t r a f = 0 by simp [pl.psh, g, gt], show pl.pshE t r a f = 5 by simp [pl.pshE, g, gt]]
      exact push_oddt t r a f w h1 h2 h3 h4 t0 ht
    · have gt := pl.oddB_not ht
      by_cases hf : f % 16 ≠ 0 ∨ 65536 < f
      · have gf := pl.oddB_of hf
        rw [show pl.psh t r a f = 0 by simp [pl.psh, g, gt, gf], show pl.pshE t r a f = 5 by simp [pl.pshE, g, gt, gf]]
        exact push_oddf t r a f w h1 h2 h3 h4 t0 (by omega) (by omega) f0 hf
      · have gf := pl.oddB_not hf
        by_cases hl : t < f + (8 * r + a + 15) / 16 * 16
        · rw [show pl.psh t r a f = 0 by simp [pl.psh, g, gt, gf, hl], show pl.pshE t r a f = 8 by simp [pl.pshE, g, gt, gf, hl]]
          exact push_full t r a f w h1 h2 h3 h4 t0 (by omega) (by omega) f0 (by omega) (by omega) hl
        · rw [show pl.psh t r a f = t - (8 * r + a + 15) / 16 * 16 by simp [pl.psh, g, gt, gf, hl], show pl.pshE t r a f = 0 by simp [pl.pshE, g, gt, gf, hl]]
          exact push_ok t r a f w h1 h2 h3 h4 t0 (by omega) (by omega) f0 (by omega) (by omega) (by omega)
  · have g := pl.okB_not h
    rw [show pl.psh t r a f = 0 by simp [pl.psh, g], show pl.pshE t r a f = 2 by simp [pl.pshE, g]]
    exact push_no t r a f w (by omega)
theorem rpush_any (t r a f : Int) (w : World) (t0 : 0 ≤ t) (f0 : 0 ≤ f) : Calls Try.prog 21 #[.int .u64 t, .int .i64 r, .int .i64 a, .int .u64 f] w fun e w' => e = .returned (.tuple #[.int .u64 (pl.psh t r a f), .int .i64 (pl.pshE t r a f)]) ∧ w = w' := by
  by_cases h : 0 ≤ r ∧ r ≤ 64 ∧ 0 ≤ a ∧ a ≤ 4096
  · have g := pl.okB_of h
    obtain ⟨h1, h2, h3, h4⟩ := h
    by_cases ht : t % 16 ≠ 0 ∨ 65536 < t
    · have gt := pl.oddB_of ht
      rw [show pl.psh t r a f = 0 by simp [pl.psh, g, gt], show pl.pshE t r a f = 5 by simp [pl.pshE, g, gt]]
      exact rpush_oddt t r a f w h1 h2 h3 h4 t0 ht
    · have gt := pl.oddB_not ht
      by_cases hf : f % 16 ≠ 0 ∨ 65536 < f
      · have gf := pl.oddB_of hf
        rw [show pl.psh t r a f = 0 by simp [pl.psh, g, gt, gf], show pl.pshE t r a f = 5 by simp [pl.pshE, g, gt, gf]]
        exact rpush_oddf t r a f w h1 h2 h3 h4 t0 (by omega) (by omega) f0 hf
      · have gf := pl.oddB_not hf
        by_cases hl : t < f + (8 * r + a + 15) / 16 * 16
        · rw [show pl.psh t r a f = 0 by simp [pl.psh, g, gt, gf, hl], show pl.pshE t r a f = 8 by simp [pl.pshE, g, gt, gf, hl]]
          exact rpush_full t r a f w h1 h2 h3 h4 t0 (by omega) (by omega) f0 (by omega) (by omega) hl
        · rw [show pl.psh t r a f = t - (8 * r + a + 15) / 16 * 16 by simp [pl.psh, g, gt, gf, hl], show pl.pshE t r a f = 0 by simp [pl.pshE, g, gt, gf, hl]]
          exact rpush_ok t r a f w h1 h2 h3 h4 t0 (by omega) (by omega) f0 (by omega) (by omega) (by omega)
  · have g := pl.okB_not h
    rw [show pl.psh t r a f = 0 by simp [pl.psh, g], show pl.pshE t r a f = 2 by simp [pl.pshE, g]]
    exact rpush_no t r a f w (by omega)
theorem pop_any (t r a : Int) (w : World) (t0 : 0 ≤ t) : Calls Try.prog 22 #[.int .u64 t, .int .i64 r, .int .i64 a] w fun e w' => e = .returned (.tuple #[.int .u64 (pl.pop t r a), .int .i64 (pl.popE t r a)]) ∧ w = w' := by
  by_cases h : 0 ≤ r ∧ r ≤ 64 ∧ 0 ≤ a ∧ a ≤ 4096
  · have g := pl.okB_of h
    obtain ⟨h1, h2, h3, h4⟩ := h
    by_cases ht : t % 16 ≠ 0 ∨ 65536 < t
    · have gt := pl.oddB_of ht
      rw [show pl.pop t r a = 0 by simp [pl.pop, g, gt], show pl.popE t r a = 5 by simp [pl.popE, g, gt]]
      exact pop_odd t r a w h1 h2 h3 h4 t0 ht
    · have gt := pl.oddB_not ht
      rw [show pl.pop t r a = t + (8 * r + a + 15) / 16 * 16 by simp [pl.pop, g, gt], show pl.popE t r a = 0 by simp [pl.popE, g, gt]]
      exact pop_ok t r a w h1 h2 h3 h4 t0 (by omega) (by omega)
  · have g := pl.okB_not h
    rw [show pl.pop t r a = 0 by simp [pl.pop, g], show pl.popE t r a = 2 by simp [pl.popE, g]]
    exact pop_no t r a w (by omega)
theorem rpop_any (t r a : Int) (w : World) (t0 : 0 ≤ t) : Calls Try.prog 23 #[.int .u64 t, .int .i64 r, .int .i64 a] w fun e w' => e = .returned (.tuple #[.int .u64 (pl.pop t r a), .int .i64 (pl.popE t r a)]) ∧ w = w' := by
  by_cases h : 0 ≤ r ∧ r ≤ 64 ∧ 0 ≤ a ∧ a ≤ 4096
  · have g := pl.okB_of h
    obtain ⟨h1, h2, h3, h4⟩ := h
    by_cases ht : t % 16 ≠ 0 ∨ 65536 < t
    · have gt := pl.oddB_of ht
      rw [show pl.pop t r a = 0 by simp [pl.pop, g, gt], show pl.popE t r a = 5 by simp [pl.popE, g, gt]]
      exact rpop_odd t r a w h1 h2 h3 h4 t0 ht
    · have gt := pl.oddB_not ht
      rw [show pl.pop t r a = t + (8 * r + a + 15) / 16 * 16 by simp [pl.pop, g, gt], show pl.popE t r a = 0 by simp [pl.popE, g, gt]]
      exact rpop_ok t r a w h1 h2 h3 h4 t0 (by omega) (by omega)
  · have g := pl.okB_not h
    rw [show pl.pop t r a = 0 by simp [pl.pop, g], show pl.popE t r a = 2 by simp [pl.popE, g]]
    exact rpop_no t r a w (by omega)
theorem size_any (r a : Int) (w : World) : Calls Try.prog 8 #[.int .i64 r, .int .i64 a] w fun e w' => e = .returned (.tuple #[.int .i64 (pl.siz r a), .int .i64 (pl.sizE r a)]) ∧ w = w' := by
  by_cases h : 0 ≤ r ∧ r ≤ 64 ∧ 0 ≤ a ∧ a ≤ 4096
  · have g := pl.okB_of h
    rw [show pl.siz r a = (8 * r + a + 15) / 16 * 16 by simp [pl.siz, g], show pl.sizE r a = 0 by simp [pl.sizE, g]]
    exact size_ok r a w h.1 h.2.1 h.2.2.1 h.2.2.2
  · have g := pl.okB_not h
    rw [show pl.siz r a = 0 by simp [pl.siz, g], show pl.sizE r a = 2 by simp [pl.sizE, g]]
    exact size_no r a w (by omega)
theorem rsize_any (r a : Int) (w : World) : Calls Try.prog 9 #[.int .i64 r, .int .i64 a] w fun e w' => e = .returned (.tuple #[.int .i64 (pl.siz r a), .int .i64 (pl.sizE r a)]) ∧ w = w' := by
  by_cases h : 0 ≤ r ∧ r ≤ 64 ∧ 0 ≤ a ∧ a ≤ 4096
  · have g := pl.okB_of h
    rw [show pl.siz r a = (8 * r + a + 15) / 16 * 16 by simp [pl.siz, g], show pl.sizE r a = 0 by simp [pl.sizE, g]]
    exact rsize_ok r a w h.1 h.2.1 h.2.2.1 h.2.2.2
  · have g := pl.okB_not h
    rw [show pl.siz r a = 0 by simp [pl.siz, g], show pl.sizE r a = 2 by simp [pl.sizE, g]]
    exact rsize_no r a w (by omega)

/-! ### The statements' helpers -/
theorem slot_at (t r v : Int) (w : World) (h : pl.slt t r = v) : Calls Try.prog 10 #[.int .u64 t, .int .i64 r] w fun e w' => e = .returned (.int .u64 v) ∧ w = w' := by
  rw [← h]
  exact slot_any t r w
theorem area_at (t r n v : Int) (w : World) (h : pl.are t r n = v) : Calls Try.prog 12 #[.int .u64 t, .int .i64 r, .int .i64 n] w fun e w' => e = .returned (.int .u64 v) ∧ w = w' := by
  rw [← h]
  exact area_any t r n w
theorem sized_yes (r a n : Int) (w : World) (h1 : 0 ≤ r) (h2 : r ≤ 64) (h3 : 0 ≤ a) (h4 : a ≤ 4096) (hn : (8 * r + a + 15) / 16 * 16 = n) :
    Calls Try.prog 27 #[.int .i64 r, .int .i64 a, .int .i64 n] w fun e w' => e = .returned (.bool true) ∧ w = w' := by
  subst hn
  go_enter Try.func27, Try.ntmps27
  go_wp2_with fail
  refine (size_ok r a _ h1 h2 h3 h4).mono ?_
  rintro e w' ⟨rfl, rfl⟩
  go_wp2
  go_ret
  exact ⟨rfl, rfl⟩
theorem pushed_yes (t x : Int) (w : World) (t0 : 0 ≤ t) (t1 : t % 16 = 0) (t2 : t ≤ 65536) (h : 64 ≤ t) (hx : t - 32 = x) :
    Calls Try.prog 24 #[.int .u64 t, .int .u64 x, .int .i64 0] w fun e w' => e = .returned (.bool true) ∧ w = w' := by
  subst hx
  go_enter Try.func24, Try.ntmps24
  go_wp2_with fail
  refine (push_ok t 3 5 32 _ (by omega) (by omega) (by omega) (by omega) t0 t1 t2 (by omega) (by omega) (by omega) (by omega)).mono ?_
  rintro e w' ⟨rfl, rfl⟩
  go_wp2
  go_ret
  exact ⟨rfl, rfl⟩
theorem pushed_full (w : World) :
    Calls Try.prog 24 #[.int .u64 48, .int .u64 0, .int .i64 8] w fun e w' => e = .returned (.bool true) ∧ w = w' := by
  go_enter Try.func24, Try.ntmps24
  go_wp2_with fail
  refine (push_full 48 3 5 32 _ (by omega) (by omega) (by omega) (by omega) (by omega) (by omega) (by omega) (by omega) (by omega) (by omega) (by omega)).mono ?_
  rintro e w' ⟨rfl, rfl⟩
  go_wp2
  go_ret
  exact ⟨rfl, rfl⟩
theorem pushed_odd (w : World) :
    Calls Try.prog 24 #[.int .u64 40, .int .u64 0, .int .i64 5] w fun e w' => e = .returned (.bool true) ∧ w = w' := by
  go_enter Try.func24, Try.ntmps24
  go_wp2_with fail
  refine (push_oddt 40 3 5 32 _ (by omega) (by omega) (by omega) (by omega) (by omega) (by omega)).mono ?_
  rintro e w' ⟨rfl, rfl⟩
  go_wp2
  go_ret
  exact ⟨rfl, rfl⟩
theorem awake_true (w : World) :
    Calls Try.prog 14 #[] w fun e w' => e = .returned (.bool true) ∧ w = w' := by
  go_enter Try.func14, Try.ntmps14
  go_wp2_with fail
  refine (sized_yes 3 5 32 _ (by omega) (by omega) (by omega) (by omega) (by omega)).mono ?_
  rintro e w' ⟨rfl, rfl⟩
  go_wp2_with fail
  refine (sized_yes 0 0 0 _ (by omega) (by omega) (by omega) (by omega) (by omega)).mono ?_
  rintro e w' ⟨rfl, rfl⟩
  go_wp2_with fail
  refine (sized_yes 2 16 32 _ (by omega) (by omega) (by omega) (by omega) (by omega)).mono ?_
  rintro e w' ⟨rfl, rfl⟩
  go_wp2_with fail
  refine (pushed_yes 96 64 _ (by omega) (by omega) (by omega) (by omega) (by omega)).mono ?_
  rintro e w' ⟨rfl, rfl⟩
  go_wp2_with fail
  refine (slot_at 64 2 80 _ (by decide)).mono ?_
  rintro e w' ⟨rfl, rfl⟩
  go_wp2_with fail
  refine (area_at 64 3 5 93 _ (by decide)).mono ?_
  rintro e w' ⟨rfl, rfl⟩
  go_wp2
  go_ret
  exact ⟨rfl, rfl⟩
end Go.Proofs.Yteemlbkbfngoeaa
