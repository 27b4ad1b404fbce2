/- WordDoes, WordDivides, WordProducts, WordShifts, walked: each returns true. -/
import Derived.Test.YtimchannmigioaaWAwake
namespace Go.Proofs.Ytimchannmigioaa
open Go.RowKit
set_option linter.unusedVariables false

set_option maxRecDepth 100000 in
set_option maxHeartbeats 1600000 in
theorem does_walk (a0 a1 a2 : Int) (w0 : (Lit.int .i64 a0).wf = true) (w1 : (Lit.int .u64 a1).wf = true) (w2 : (Lit.int .u64 a2).wf = true) (w : World) :
    Calls Try.prog 7 #[.int .i64 a0, .int .u64 a1, .int .u64 a2] w fun e w' => e = .returned (.bool true) ∧ Below w.heap.size w w' := by
  obtain ⟨p0, q0⟩ := bl.wf_i64 w0
  obtain ⟨p1, q1⟩ := bl.wf_u64 w1
  obtain ⟨p2, q2⟩ := bl.wf_u64 w2
  clear w0 w1 w2
  go_enter Try.func7, Try.ntmps7
  go_wp2_with fail
  refine (do_any a0 a1 a2 _ p1 q1 p2 q2).mono ?_
  rintro e v1 ⟨rfl, g1⟩
  go_wp2_with fail
  refine (rdo_any a0 a1 a2 _ p1 q1 p2 q2).mono ?_
  rintro e w' ⟨rfl, rfl⟩
  go_wp2_with fail
  refine (half_any a0 a1 a2 _ p1 q1 p2 q2).mono ?_
  rintro e v2 ⟨rfl, g2⟩
  replace g2 := g1.trans (g2.mono g1.size)
  go_wp2_with fail
  refine (rhalf_any a0 a1 a2 _ p1 q1 p2 q2).mono ?_
  rintro e w' ⟨rfl, rfl⟩
  go_wp2_with fail
  refine (awake_true _).mono ?_
  rintro e v3 ⟨rfl, g3⟩
  replace g3 := g2.trans (g3.mono g2.size)
  go_wp2
  go_ret
  exact ⟨rfl, g3⟩

theorem told_at (f x y v : Int) (w : World) (f0 : 1 ≤ f) (f1 : f ≤ 20) (x0 : 0 ≤ x) (x1 : x < 18446744073709551616) (y0 : 0 ≤ y) (y1 : y < 18446744073709551616) (hv : wd.doV f x y = v) :
    Calls Try.prog 11 #[.int .i64 f, .int .u64 x, .int .u64 y] w fun e w' => e = .returned (.int .u64 v) ∧ Below w.heap.size w w' := by
  rw [← hv]
  exact told_any f x y w f0 f1 x0 x1 y0 y1
/-- how far a word is from 0, signed -/
def sizV (x : Int) : Int := if 9223372036854775808 ≤ x then 18446744073709551616 - x else x
theorem size_any (x : Int) (w : World) (x0 : 0 ≤ x) (x1 : x < 18446744073709551616) : Calls Try.prog 29 #[.int .u64 x] w fun e w' => e = .returned (.int .u64 (sizV x)) ∧ w = w' := by
  by_cases h : 9223372036854775808 ≤ x
  · rw [show sizV x = 18446744073709551616 - x from if_pos h]
    go_enter Try.func29, Try.ntmps29
    go_wp2
    go_ret
    exact ⟨bl.ret1 (bl.int_eq (by rw [IntKind.wrap_u64]; omega)), rfl⟩
  · rw [show sizV x = x from if_neg h]
    go_enter Try.func29, Try.ntmps29
    go_wp2
    go_ret
    exact ⟨rfl, rfl⟩
theorem tmod_bd (X Y : Int) (hY : Y ≠ 0) : (0 < Y → -Y < X.tmod Y ∧ X.tmod Y < Y) ∧ (Y < 0 → Y < X.tmod Y ∧ X.tmod Y < -Y) := by
  constructor
  · intro h
    exact ⟨by have := Int.lt_tmod_of_pos X h; omega, Int.tmod_lt_of_pos X h⟩
  · intro h
    have e : X.tmod Y = X.tmod (-Y) := by rw [Int.tmod_neg]
    rw [e]
    have h' : 0 < -Y := by omega
    exact ⟨by have := Int.lt_tmod_of_pos X h'; omega, Int.tmod_lt_of_pos X h'⟩
theorem tmod_sign (X Y : Int) : (0 ≤ X → 0 ≤ X.tmod Y) ∧ (X ≤ 0 → X.tmod Y ≤ 0) := by
  constructor
  · intro h; exact Int.tmod_nonneg _ h
  · intro h
    have := Int.tmod_nonneg Y (show 0 ≤ -X by omega)
    rw [Int.neg_tmod] at this
    omega
/-- a quotient by the divisor, and the rest, of signed words -/
theorem divs_law (x y : Int) (x0 : 0 ≤ x) (x1 : x < 18446744073709551616) (y0 : 0 < y) (y1 : y < 18446744073709551616) :
    (wd.divS x y * y % 18446744073709551616 + wd.remS x y) % 18446744073709551616 = x ∧ sizV (wd.remS x y) < sizV y ∧ 0 ≤ wd.remS x y ∧ wd.remS x y < 18446744073709551616 ∧
      (wd.remS x y = 0 ∨ (9223372036854775808 ≤ wd.remS x y ↔ 9223372036854775808 ≤ x)) := by
  have hy : y ≠ 0 := by omega
  have hd := Int.mul_tdiv_add_tmod (wrap64 x) (wrap64 y)
  have hY : wrap64 y ≠ 0 := by unfold wrap64; omega
  have hb := tmod_bd (wrap64 x) (wrap64 y) hY
  have hs := tmod_sign (wrap64 x) (wrap64 y)
  have cx := wd.wrap64_cases x x0 x1
  have cy := wd.wrap64_cases y (by omega) y1
  rw [wd.divS, if_neg hy, wd.remS, if_neg hy]
  generalize (wrap64 x).tdiv (wrap64 y) = Q at *
  generalize (wrap64 x).tmod (wrap64 y) = R at *
  generalize wrap64 x = X at *
  generalize wrap64 y = Y at *
  have key : ∃ c : Int, Q % 18446744073709551616 * y = Y * Q + c * 18446744073709551616 := by
    have e1 : Q % 18446744073709551616 = Q - 18446744073709551616 * (Q / 18446744073709551616) := Int.emod_def _ _
    rcases cy with ⟨_, rfl⟩ | ⟨_, rfl⟩
    · refine ⟨-(Q / 18446744073709551616) * Y, ?_⟩
      rw [e1, Int.sub_mul, Int.mul_comm Q Y, Int.neg_mul, Int.neg_mul, Int.mul_assoc, Int.mul_comm (18446744073709551616) (Q / 18446744073709551616 * Y)]
      omega
    · refine ⟨Q - (Q / 18446744073709551616) * y, ?_⟩
      rw [e1, Int.sub_mul, Int.sub_mul, Int.sub_mul, Int.mul_comm Q y, Int.mul_assoc, Int.mul_comm (18446744073709551616) (Q / 18446744073709551616 * y), Int.mul_comm 18446744073709551616 Q]
      omega
  obtain ⟨c, hc⟩ := key
  rw [hc]
  unfold sizV
  generalize Y * Q = P at *
  have hb1 := hb.1
  have hb2 := hb.2
  have hs1 := hs.1
  have hs2 := hs.2
  clear hb hs hc
  refine ⟨by omega, ?_, by omega, by omega, by omega⟩
  split <;> split <;> omega
set_option maxRecDepth 100000 in
set_option maxHeartbeats 3200000 in
theorem divides_walk (a0 a1 : Int) (w0 : (Lit.int .u64 a0).wf = true) (w1 : (Lit.int .u64 a1).wf = true) (w : World) :
    Calls Try.prog 9 #[.int .u64 a0, .int .u64 a1] w fun e w' => e = .returned (.bool true) ∧ Below w.heap.size w w' := by
  obtain ⟨p0, q0⟩ := bl.wf_u64 w0
  obtain ⟨p1, q1⟩ := bl.wf_u64 w1
  clear w0 w1
  by_cases hy : a1 = 0
  · subst hy
    go_enter Try.func9, Try.ntmps9
    go_wp2_with fail
    refine (known_walk _).mono ?_
    rintro e v1 ⟨rfl, g1⟩
    go_wp2_with fail
    refine (told_at 8 a0 0 (18446744073709551615) _ (by omega) (by omega) (by omega) (by omega) (by omega) (by omega) (by simp [wd.doV, wd.divU])).mono ?_
    rintro e v2 ⟨rfl, g2⟩
    replace g2 := g1.trans (g2.mono g1.size)
    go_wp2_with fail
    refine (told_at 10 a0 0 (a0) _ (by omega) (by omega) (by omega) (by omega) (by omega) (by omega) (by simp [wd.doV, wd.remU])).mono ?_
    rintro e v3 ⟨rfl, g3⟩
    replace g3 := g2.trans (g3.mono g2.size)
    go_wp2_with fail
    refine (told_at 7 a0 0 (18446744073709551615) _ (by omega) (by omega) (by omega) (by omega) (by omega) (by omega) (by simp [wd.doV, wd.divS])).mono ?_
    rintro e v4 ⟨rfl, g4⟩
    replace g4 := g3.trans (g4.mono g3.size)
    go_wp2_with fail
    refine (told_at 9 a0 0 (a0) _ (by omega) (by omega) (by omega) (by omega) (by omega) (by omega) (by simp [wd.doV, wd.remS])).mono ?_
    rintro e v5 ⟨rfl, g5⟩
    replace g5 := g4.trans (g5.mono g4.size)
    go_wp2
    go_ret
    exact ⟨rfl, g5⟩
  · obtain ⟨Q, hQ⟩ : ∃ Q, wd.doV 8 a0 a1 = Q := ⟨_, rfl⟩
    obtain ⟨R, hR⟩ : ∃ R, wd.doV 10 a0 a1 = R := ⟨_, rfl⟩
    obtain ⟨S, hS⟩ : ∃ S, wd.doV 7 a0 a1 = S := ⟨_, rfl⟩
    obtain ⟨T, hT⟩ : ∃ T, wd.doV 9 a0 a1 = T := ⟨_, rfl⟩
    have HQ := bl.hid hQ
    have HR := bl.hid hR
    have HS := bl.hid hS
    have HT := bl.hid hT
    have y1 : 1 ≤ a1 := by omega
    have dl := divs_law a0 a1 p0 q0 (by omega) q1
    have eQ : a0 / a1 = Q := by rw [← hQ]; simp [wd.doV, wd.divU, hy]
    have eR : a0 % a1 = R := by rw [← hR]; simp [wd.doV, wd.remU, hy]
    rw [show wd.divS a0 a1 = S from hS, show wd.remS a0 a1 = T from hT] at dl
    have r0 : 0 ≤ R := by rw [← eR]; exact Int.emod_nonneg _ (by omega)
    have r1 : R < a1 := by rw [← eR]; exact Int.emod_lt_of_pos _ (by omega)
    have e1 : Q * a1 + R = a0 := by rw [← eQ, ← eR, Int.mul_comm]; exact Int.mul_ediv_add_emod a0 a1
    have f1 : IntKind.u64.wrap (IntKind.u64.wrap (Q * a1) + R) = a0 := by rw [IntKind.wrap_u64, IntKind.wrap_u64]; generalize Q * a1 = P at *; omega
    have f2 : IntKind.u64.wrap (IntKind.u64.wrap (S * a1) + T) = a0 := by rw [IntKind.wrap_u64, IntKind.wrap_u64]; exact dl.1
    obtain ⟨-, f3, t0, t1, f4⟩ := dl
    clear hy hQ hR hS hT eQ eR e1
    by_cases hz : T = 0
    · have f5 : (T == 0) = true := by simpa using hz
      have HZ := bl.hid hz
      clear hz f4
      go_enter Try.func9, Try.ntmps9
      go_wp2_with fail
      refine (known_walk _).mono ?_
      rintro e v1 ⟨rfl, g1⟩
      go_wp2_with fail
      refine (told_at 8 a0 a1 (Q) _ (by omega) (by omega) (by omega) (by omega) (by omega) (by omega) (HQ.out)).mono ?_
      rintro e v2 ⟨rfl, g2⟩
      replace g2 := g1.trans (g2.mono g1.size)
      go_wp2_with fail
      refine (told_at 10 a0 a1 (R) _ (by omega) (by omega) (by omega) (by omega) (by omega) (by omega) (HR.out)).mono ?_
      rintro e v3 ⟨rfl, g3⟩
      replace g3 := g2.trans (g3.mono g2.size)
      go_wp2_with fail
      refine (told_at 7 a0 a1 (S) _ (by omega) (by omega) (by omega) (by omega) (by omega) (by omega) (HS.out)).mono ?_
      rintro e v4 ⟨rfl, g4⟩
      replace g4 := g3.trans (g4.mono g3.size)
      go_wp2_with fail
      refine (told_at 9 a0 a1 (T) _ (by omega) (by omega) (by omega) (by omega) (by omega) (by omega) (HT.out)).mono ?_
      rintro e v5 ⟨rfl, g5⟩
      replace g5 := g4.trans (g5.mono g4.size)
      go_wp2_with fail
      refine (size_any T _ t0 t1).mono ?_
      rintro e w' ⟨rfl, rfl⟩
      go_wp2_with fail
      refine (size_any a1 _ p1 q1).mono ?_
      rintro e w' ⟨rfl, rfl⟩
      go_wp2
      go_ret
      exact ⟨rfl, g5⟩
    · have f5 : (T == 0) = false := by simpa using hz
      have f6 := f4.resolve_left hz
      clear hz f4
      by_cases g : 9223372036854775808 ≤ a0
      · have g2 := f6.2 g
        clear f6
        go_enter Try.func9, Try.ntmps9
        go_wp2_with fail
        refine (known_walk _).mono ?_
        rintro e v1 ⟨rfl, g1⟩
        go_wp2_with fail
        refine (told_at 8 a0 a1 (Q) _ (by omega) (by omega) (by omega) (by omega) (by omega) (by omega) (HQ.out)).mono ?_
        rintro e v2 ⟨rfl, g2⟩
        replace g2 := g1.trans (g2.mono g1.size)
        go_wp2_with fail
        refine (told_at 10 a0 a1 (R) _ (by omega) (by omega) (by omega) (by omega) (by omega) (by omega) (HR.out)).mono ?_
        rintro e v3 ⟨rfl, g3⟩
        replace g3 := g2.trans (g3.mono g2.size)
        go_wp2_with fail
        refine (told_at 7 a0 a1 (S) _ (by omega) (by omega) (by omega) (by omega) (by omega) (by omega) (HS.out)).mono ?_
        rintro e v4 ⟨rfl, g4⟩
        replace g4 := g3.trans (g4.mono g3.size)
        go_wp2_with fail
        refine (told_at 9 a0 a1 (T) _ (by omega) (by omega) (by omega) (by omega) (by omega) (by omega) (HT.out)).mono ?_
        rintro e v5 ⟨rfl, g5⟩
        replace g5 := g4.trans (g5.mono g4.size)
        go_wp2_with fail
        refine (size_any T _ t0 t1).mono ?_
        rintro e w' ⟨rfl, rfl⟩
        go_wp2_with fail
        refine (size_any a1 _ p1 q1).mono ?_
        rintro e w' ⟨rfl, rfl⟩
        go_wp2
        go_ret
        exact ⟨rfl, g5⟩
      · have g2 : decide (9223372036854775808 ≤ T) = false := decide_eq_false fun q => g (f6.1 q)
        have g3 : decide (9223372036854775808 ≤ a0) = false := decide_eq_false g
        clear f6 g
        go_enter Try.func9, Try.ntmps9
        go_wp2_with fail
        refine (known_walk _).mono ?_
        rintro e v1 ⟨rfl, g1⟩
        go_wp2_with fail
        refine (told_at 8 a0 a1 (Q) _ (by omega) (by omega) (by omega) (by omega) (by omega) (by omega) (HQ.out)).mono ?_
        rintro e v2 ⟨rfl, g2⟩
        replace g2 := g1.trans (g2.mono g1.size)
        go_wp2_with fail
        refine (told_at 10 a0 a1 (R) _ (by omega) (by omega) (by omega) (by omega) (by omega) (by omega) (HR.out)).mono ?_
        rintro e v3 ⟨rfl, g3⟩
        replace g3 := g2.trans (g3.mono g2.size)
        go_wp2_with fail
        refine (told_at 7 a0 a1 (S) _ (by omega) (by omega) (by omega) (by omega) (by omega) (by omega) (HS.out)).mono ?_
        rintro e v4 ⟨rfl, g4⟩
        replace g4 := g3.trans (g4.mono g3.size)
        go_wp2_with fail
        refine (told_at 9 a0 a1 (T) _ (by omega) (by omega) (by omega) (by omega) (by omega) (by omega) (HT.out)).mono ?_
        rintro e v5 ⟨rfl, g5⟩
        replace g5 := g4.trans (g5.mono g4.size)
        go_wp2_with fail
        refine (size_any T _ t0 t1).mono ?_
        rintro e w' ⟨rfl, rfl⟩
        go_wp2_with fail
        refine (size_any a1 _ p1 q1).mono ?_
        rintro e w' ⟨rfl, rfl⟩
        go_wp2
        go_ret
        exact ⟨rfl, g5⟩


/-! ### products -/
theorem hi_zero (x : Int) : wd.mulh x 0 false false = 0 := by simp [wd.mulh, wd.hi, wd.off]
theorem hi_comm (x y : Int) : wd.hi x y = wd.hi y x := by unfold wd.hi; rw [Int.mul_comm]
theorem mulh_comm (x y : Int) : wd.mulh x y true true = wd.mulh y x true true := by unfold wd.mulh; rw [hi_comm]; omega
theorem mulh_uuV (x y : Int) (x0 : 0 ≤ x) (x1 : x < 18446744073709551616) (y0 : 0 ≤ y) (y1 : y < 18446744073709551616) : wd.mulh x y false false = wd.hi x y := by
  have := wd_hi_bd x y x0 x1 y0 y1
  simp only [wd.mulh, wd.off, Bool.false_eq_true, false_and, if_false]
  omega
/-- one more of the second number makes just the first one more, over both halves -/
theorem prod_succ (x y : Int) : x * (y + 1) % 18446744073709551616 = (x * y % 18446744073709551616 + x) % 18446744073709551616 ∧ wd.hi x (y + 1) = wd.hi x y + (x * y % 18446744073709551616 + x) / 18446744073709551616 := by
  unfold wd.hi
  rw [Int.mul_add, Int.mul_one]
  generalize x * y = P
  omega
theorem mul_bd (x y : Int) : 0 ≤ x * y % 18446744073709551616 ∧ x * y % 18446744073709551616 < 18446744073709551616 := em_bd _
set_option maxRecDepth 100000 in
set_option maxHeartbeats 3200000 in
theorem products_walk (a0 a1 : Int) (w0 : (Lit.int .u64 a0).wf = true) (w1 : (Lit.int .u64 a1).wf = true) (w : World) :
    Calls Try.prog 3 #[.int .u64 a0, .int .u64 a1] w fun e w' => e = .returned (.bool true) ∧ Below w.heap.size w w' := by
  obtain ⟨p0, q0⟩ := bl.wf_u64 w0
  obtain ⟨p1, q1⟩ := bl.wf_u64 w1
  clear w0 w1
  obtain ⟨lo, hlo⟩ : ∃ lo, a0 * a1 % 18446744073709551616 = lo := ⟨_, rfl⟩
  obtain ⟨hh, hhh⟩ : ∃ hh, wd.hi a0 a1 = hh := ⟨_, rfl⟩
  obtain ⟨ss, hss⟩ : ∃ ss, wd.mulh a0 a1 true true = ss := ⟨_, rfl⟩
  obtain ⟨su, hsu⟩ : ∃ su, wd.mulh a0 a1 true false = su := ⟨_, rfl⟩
  have bl0 := mul_bd a0 a1
  have bh0 := wd_hi_bd a0 a1 p0 q0 p1 q1
  have ps := prod_succ a0 a1
  have HL : Hid (wd.doV 3 a0 a1 = lo) := bl.hid hlo
  have HH : Hid (wd.doV 5 a0 a1 = hh) := bl.hid (by rw [← hhh]; exact mulh_uuV a0 a1 p0 q0 p1 q1)
  have HL2 : Hid (wd.doV 3 a1 a0 = lo) := bl.hid (by rw [← hlo, Int.mul_comm]; rfl)
  have HH2 : Hid (wd.doV 5 a1 a0 = hh) := bl.hid (by rw [← hhh, hi_comm]; exact mulh_uuV a1 a0 p1 q1 p0 q0)
  have HS : Hid (wd.doV 4 a0 a1 = ss) := bl.hid hss
  have HS2 : Hid (wd.doV 4 a1 a0 = ss) := bl.hid (by rw [← hss]; exact (mulh_comm a0 a1).symm)
  have HU : Hid (wd.doV 6 a0 a1 = su) := bl.hid hsu
  have hm : (hh - wd.off true a0 a1 - wd.off true a1 a0) % 18446744073709551616 = ss ∧ (hh - wd.off true a0 a1) % 18446744073709551616 = su := by
    rw [← hss, ← hsu, wd.mulh, wd.mulh, hhh]
    exact ⟨rfl, by simp [wd.off]⟩
  unfold wd.off at hm
  rw [hlo] at bl0 ps
  rw [hhh] at bh0 ps
  have HN : Hid (wd.doV 3 a0 (a1 + 1) = (lo + a0) % 18446744073709551616) := bl.hid ps.1
  obtain ⟨l0, l1⟩ := bl0
  obtain ⟨h0, h1⟩ := bh0
  have ps2 := ps.2
  clear hlo hhh hss hsu ps
  by_cases gx : 9223372036854775808 ≤ a0
  · by_cases gy : 9223372036854775808 ≤ a1
    · have m1 : IntKind.u64.wrap (hh - a1) = su := by (try rw [IntKind.wrap_u64]); have := hm.2; simp [gx] at this; omega
      skip
      have m2 : IntKind.u64.wrap (su - a0) = ss := by (try rw [IntKind.wrap_u64]); have k1 := hm.1; have k2 := hm.2; simp [gx] at k2; simp [gx, gy] at k1; omega
      skip
      clear hm
      by_cases hl : a1 = 18446744073709551615
      · have hl1 : (a1 != 18446744073709551615) = false := by simpa using hl
        have HX := bl.hid hl
        clear ps2 hl
        by_cases hc : lo + a0 < 18446744073709551616
        · have w1 : IntKind.u64.wrap (lo + a0) = lo + a0 := by rw [IntKind.wrap_u64]; omega
          go_enter Try.func3, Try.ntmps3
          go_wp2_with fail
          refine (awake_true _).mono ?_
          rintro e v1 ⟨rfl, g1⟩
          go_wp2_with fail
          refine (told_at 3 a0 a1 (lo) _ (by omega) (by omega) (by omega) (by omega) (by omega) (by omega) (HL.out)).mono ?_
          rintro e v2 ⟨rfl, g2⟩
          replace g2 := g1.trans (g2.mono g1.size)
          go_wp2_with fail
          refine (told_at 5 a0 a1 (hh) _ (by omega) (by omega) (by omega) (by omega) (by omega) (by omega) (HH.out)).mono ?_
          rintro e v3 ⟨rfl, g3⟩
          replace g3 := g2.trans (g3.mono g2.size)
          go_wp2_with fail
          refine (told_at 3 a1 a0 (lo) _ (by omega) (by omega) (by omega) (by omega) (by omega) (by omega) (HL2.out)).mono ?_
          rintro e v4 ⟨rfl, g4⟩
          replace g4 := g3.trans (g4.mono g3.size)
          go_wp2_with fail
          refine (told_at 5 a1 a0 (hh) _ (by omega) (by omega) (by omega) (by omega) (by omega) (by omega) (HH2.out)).mono ?_
          rintro e v5 ⟨rfl, g5⟩
          replace g5 := g4.trans (g5.mono g4.size)
          go_wp2_with fail
          refine (told_at 4 a0 a1 (ss) _ (by omega) (by omega) (by omega) (by omega) (by omega) (by omega) (HS.out)).mono ?_
          rintro e v6 ⟨rfl, g6⟩
          replace g6 := g5.trans (g6.mono g5.size)
          go_wp2_with fail
          refine (told_at 4 a1 a0 (ss) _ (by omega) (by omega) (by omega) (by omega) (by omega) (by omega) (HS2.out)).mono ?_
          rintro e v7 ⟨rfl, g7⟩
          replace g7 := g6.trans (g7.mono g6.size)
          go_wp2_with fail
          refine (told_at 5 a0 0 (0) _ (by omega) (by omega) (by omega) (by omega) (by omega) (by omega) ((hi_zero _))).mono ?_
          rintro e v8 ⟨rfl, g8⟩
          replace g8 := g7.trans (g8.mono g7.size)
          go_wp2_with fail
          refine (told_at 6 a0 a1 (su) _ (by omega) (by omega) (by omega) (by omega) (by omega) (by omega) (HU.out)).mono ?_
          rintro e v9 ⟨rfl, g9⟩
          replace g9 := g8.trans (g9.mono g8.size)
          go_wp2_with fail
          refine (told_at 4 a0 a1 (ss) _ (by omega) (by omega) (by omega) (by omega) (by omega) (by omega) (HS.out)).mono ?_
          rintro e v10 ⟨rfl, g10⟩
          replace g10 := g9.trans (g10.mono g9.size)
          go_wp2
          go_ret
          exact ⟨rfl, g10⟩
        · have w1 : IntKind.u64.wrap (lo + a0) = lo + a0 - 18446744073709551616 := by rw [IntKind.wrap_u64]; omega
          go_enter Try.func3, Try.ntmps3
          go_wp2_with fail
          refine (awake_true _).mono ?_
          rintro e v1 ⟨rfl, g1⟩
          go_wp2_with fail
          refine (told_at 3 a0 a1 (lo) _ (by omega) (by omega) (by omega) (by omega) (by omega) (by omega) (HL.out)).mono ?_
          rintro e v2 ⟨rfl, g2⟩
          replace g2 := g1.trans (g2.mono g1.size)
          go_wp2_with fail
          refine (told_at 5 a0 a1 (hh) _ (by omega) (by omega) (by omega) (by omega) (by omega) (by omega) (HH.out)).mono ?_
          rintro e v3 ⟨rfl, g3⟩
          replace g3 := g2.trans (g3.mono g2.size)
          go_wp2_with fail
          refine (told_at 3 a1 a0 (lo) _ (by omega) (by omega) (by omega) (by omega) (by omega) (by omega) (HL2.out)).mono ?_
          rintro e v4 ⟨rfl, g4⟩
          replace g4 := g3.trans (g4.mono g3.size)
          go_wp2_with fail
          refine (told_at 5 a1 a0 (hh) _ (by omega) (by omega) (by omega) (by omega) (by omega) (by omega) (HH2.out)).mono ?_
          rintro e v5 ⟨rfl, g5⟩
          replace g5 := g4.trans (g5.mono g4.size)
          go_wp2_with fail
          refine (told_at 4 a0 a1 (ss) _ (by omega) (by omega) (by omega) (by omega) (by omega) (by omega) (HS.out)).mono ?_
          rintro e v6 ⟨rfl, g6⟩
          replace g6 := g5.trans (g6.mono g5.size)
          go_wp2_with fail
          refine (told_at 4 a1 a0 (ss) _ (by omega) (by omega) (by omega) (by omega) (by omega) (by omega) (HS2.out)).mono ?_
          rintro e v7 ⟨rfl, g7⟩
          replace g7 := g6.trans (g7.mono g6.size)
          go_wp2_with fail
          refine (told_at 5 a0 0 (0) _ (by omega) (by omega) (by omega) (by omega) (by omega) (by omega) ((hi_zero _))).mono ?_
          rintro e v8 ⟨rfl, g8⟩
          replace g8 := g7.trans (g8.mono g7.size)
          go_wp2_with fail
          refine (told_at 6 a0 a1 (su) _ (by omega) (by omega) (by omega) (by omega) (by omega) (by omega) (HU.out)).mono ?_
          rintro e v9 ⟨rfl, g9⟩
          replace g9 := g8.trans (g9.mono g8.size)
          go_wp2_with fail
          refine (told_at 4 a0 a1 (ss) _ (by omega) (by omega) (by omega) (by omega) (by omega) (by omega) (HS.out)).mono ?_
          rintro e v10 ⟨rfl, g10⟩
          replace g10 := g9.trans (g10.mono g9.size)
          go_wp2
          go_ret
          exact ⟨rfl, g10⟩
      · have hl1 : (a1 != 18446744073709551615) = true := by simpa using hl
        have y2 : a1 + 1 < 18446744073709551616 := by omega
        have HX := bl.hid hl
        clear hl
        by_cases hc : lo + a0 < 18446744073709551616
        · have w1 : IntKind.u64.wrap (lo + a0) = lo + a0 := by rw [IntKind.wrap_u64]; omega
          have w2 : (lo + a0) % 18446744073709551616 = lo + a0 := by omega
          have HM : Hid (wd.doV 5 a0 (a1 + 1) = hh) := bl.hid (by rw [show wd.doV 5 a0 (a1 + 1) = wd.hi a0 (a1 + 1) from mulh_uuV a0 (a1 + 1) p0 q0 (by omega) (by omega), ps2]; omega)
          rw [w2] at HN
          clear ps2 w2
          go_enter Try.func3, Try.ntmps3
          go_wp2_with fail
          refine (awake_true _).mono ?_
          rintro e v1 ⟨rfl, g1⟩
          go_wp2_with fail
          refine (told_at 3 a0 a1 (lo) _ (by omega) (by omega) (by omega) (by omega) (by omega) (by omega) (HL.out)).mono ?_
          rintro e v2 ⟨rfl, g2⟩
          replace g2 := g1.trans (g2.mono g1.size)
          go_wp2_with fail
          refine (told_at 5 a0 a1 (hh) _ (by omega) (by omega) (by omega) (by omega) (by omega) (by omega) (HH.out)).mono ?_
          rintro e v3 ⟨rfl, g3⟩
          replace g3 := g2.trans (g3.mono g2.size)
          go_wp2_with fail
          refine (told_at 3 a1 a0 (lo) _ (by omega) (by omega) (by omega) (by omega) (by omega) (by omega) (HL2.out)).mono ?_
          rintro e v4 ⟨rfl, g4⟩
          replace g4 := g3.trans (g4.mono g3.size)
          go_wp2_with fail
          refine (told_at 5 a1 a0 (hh) _ (by omega) (by omega) (by omega) (by omega) (by omega) (by omega) (HH2.out)).mono ?_
          rintro e v5 ⟨rfl, g5⟩
          replace g5 := g4.trans (g5.mono g4.size)
          go_wp2_with fail
          refine (told_at 4 a0 a1 (ss) _ (by omega) (by omega) (by omega) (by omega) (by omega) (by omega) (HS.out)).mono ?_
          rintro e v6 ⟨rfl, g6⟩
          replace g6 := g5.trans (g6.mono g5.size)
          go_wp2_with fail
          refine (told_at 4 a1 a0 (ss) _ (by omega) (by omega) (by omega) (by omega) (by omega) (by omega) (HS2.out)).mono ?_
          rintro e v7 ⟨rfl, g7⟩
          replace g7 := g6.trans (g7.mono g6.size)
          go_wp2_with fail
          refine (told_at 3 a0 (a1 + 1) (_) _ (by omega) (by omega) (by omega) (by omega) (by omega) (by omega) (HN.out)).mono ?_
          rintro e v8 ⟨rfl, g8⟩
          replace g8 := g7.trans (g8.mono g7.size)
          go_wp2_with fail
          refine (told_at 5 a0 (a1 + 1) (_) _ (by omega) (by omega) (by omega) (by omega) (by omega) (by omega) (HM.out)).mono ?_
          rintro e v9 ⟨rfl, g9⟩
          replace g9 := g8.trans (g9.mono g8.size)
          go_wp2_with fail
          refine (told_at 5 a0 0 (0) _ (by omega) (by omega) (by omega) (by omega) (by omega) (by omega) ((hi_zero _))).mono ?_
          rintro e v10 ⟨rfl, g10⟩
          replace g10 := g9.trans (g10.mono g9.size)
          go_wp2_with fail
          refine (told_at 6 a0 a1 (su) _ (by omega) (by omega) (by omega) (by omega) (by omega) (by omega) (HU.out)).mono ?_
          rintro e v11 ⟨rfl, g11⟩
          replace g11 := g10.trans (g11.mono g10.size)
          go_wp2_with fail
          refine (told_at 4 a0 a1 (ss) _ (by omega) (by omega) (by omega) (by omega) (by omega) (by omega) (HS.out)).mono ?_
          rintro e v12 ⟨rfl, g12⟩
          replace g12 := g11.trans (g12.mono g11.size)
          go_wp2
          go_ret
          exact ⟨rfl, g12⟩
        · have w1 : IntKind.u64.wrap (lo + a0) = lo + a0 - 18446744073709551616 := by rw [IntKind.wrap_u64]; omega
          have w2 : (lo + a0) % 18446744073709551616 = lo + a0 - 18446744073709551616 := by omega
          have hb2 := (wd_hi_bd a0 (a1 + 1) p0 q0 (by omega) (by omega)).2
          have h2 : hh + 1 < 18446744073709551616 := by rw [ps2] at hb2; omega
          clear hb2
          have HM : Hid (wd.doV 5 a0 (a1 + 1) = hh + 1) := bl.hid (by rw [show wd.doV 5 a0 (a1 + 1) = wd.hi a0 (a1 + 1) from mulh_uuV a0 (a1 + 1) p0 q0 (by omega) (by omega), ps2]; omega)
          rw [w2] at HN
          clear ps2 w2
          go_enter Try.func3, Try.ntmps3
          go_wp2_with fail
          refine (awake_true _).mono ?_
          rintro e v1 ⟨rfl, g1⟩
          go_wp2_with fail
          refine (told_at 3 a0 a1 (lo) _ (by omega) (by omega) (by omega) (by omega) (by omega) (by omega) (HL.out)).mono ?_
          rintro e v2 ⟨rfl, g2⟩
          replace g2 := g1.trans (g2.mono g1.size)
          go_wp2_with fail
          refine (told_at 5 a0 a1 (hh) _ (by omega) (by omega) (by omega) (by omega) (by omega) (by omega) (HH.out)).mono ?_
          rintro e v3 ⟨rfl, g3⟩
          replace g3 := g2.trans (g3.mono g2.size)
          go_wp2_with fail
          refine (told_at 3 a1 a0 (lo) _ (by omega) (by omega) (by omega) (by omega) (by omega) (by omega) (HL2.out)).mono ?_
          rintro e v4 ⟨rfl, g4⟩
          replace g4 := g3.trans (g4.mono g3.size)
          go_wp2_with fail
          refine (told_at 5 a1 a0 (hh) _ (by omega) (by omega) (by omega) (by omega) (by omega) (by omega) (HH2.out)).mono ?_
          rintro e v5 ⟨rfl, g5⟩
          replace g5 := g4.trans (g5.mono g4.size)
          go_wp2_with fail
          refine (told_at 4 a0 a1 (ss) _ (by omega) (by omega) (by omega) (by omega) (by omega) (by omega) (HS.out)).mono ?_
          rintro e v6 ⟨rfl, g6⟩
          replace g6 := g5.trans (g6.mono g5.size)
          go_wp2_with fail
          refine (told_at 4 a1 a0 (ss) _ (by omega) (by omega) (by omega) (by omega) (by omega) (by omega) (HS2.out)).mono ?_
          rintro e v7 ⟨rfl, g7⟩
          replace g7 := g6.trans (g7.mono g6.size)
          go_wp2_with fail
          refine (told_at 3 a0 (a1 + 1) (_) _ (by omega) (by omega) (by omega) (by omega) (by omega) (by omega) (HN.out)).mono ?_
          rintro e v8 ⟨rfl, g8⟩
          replace g8 := g7.trans (g8.mono g7.size)
          go_wp2_with fail
          refine (told_at 5 a0 (a1 + 1) (_) _ (by omega) (by omega) (by omega) (by omega) (by omega) (by omega) (HM.out)).mono ?_
          rintro e v9 ⟨rfl, g9⟩
          replace g9 := g8.trans (g9.mono g8.size)
          go_wp2_with fail
          refine (told_at 5 a0 0 (0) _ (by omega) (by omega) (by omega) (by omega) (by omega) (by omega) ((hi_zero _))).mono ?_
          rintro e v10 ⟨rfl, g10⟩
          replace g10 := g9.trans (g10.mono g9.size)
          go_wp2_with fail
          refine (told_at 6 a0 a1 (su) _ (by omega) (by omega) (by omega) (by omega) (by omega) (by omega) (HU.out)).mono ?_
          rintro e v11 ⟨rfl, g11⟩
          replace g11 := g10.trans (g11.mono g10.size)
          go_wp2_with fail
          refine (told_at 4 a0 a1 (ss) _ (by omega) (by omega) (by omega) (by omega) (by omega) (by omega) (HS.out)).mono ?_
          rintro e v12 ⟨rfl, g12⟩
          replace g12 := g11.trans (g12.mono g11.size)
          go_wp2
          go_ret
          exact ⟨rfl, g12⟩
    · have m1 : IntKind.u64.wrap (hh - a1) = su := by (try rw [IntKind.wrap_u64]); have := hm.2; simp [gx] at this; omega
      skip
      have m2 : su = ss := by (try rw [IntKind.wrap_u64]); have k1 := hm.1; have k2 := hm.2; simp [gx] at k2; simp [gx, gy] at k1; omega
      subst m2
      clear hm
      by_cases hl : a1 = 18446744073709551615
      · have hl1 : (a1 != 18446744073709551615) = false := by simpa using hl
        have HX := bl.hid hl
        clear ps2 hl
        by_cases hc : lo + a0 < 18446744073709551616
        · have w1 : IntKind.u64.wrap (lo + a0) = lo + a0 := by rw [IntKind.wrap_u64]; omega
          go_enter Try.func3, Try.ntmps3
          go_wp2_with fail
          refine (awake_true _).mono ?_
          rintro e v1 ⟨rfl, g1⟩
          go_wp2_with fail
          refine (told_at 3 a0 a1 (lo) _ (by omega) (by omega) (by omega) (by omega) (by omega) (by omega) (HL.out)).mono ?_
          rintro e v2 ⟨rfl, g2⟩
          replace g2 := g1.trans (g2.mono g1.size)
          go_wp2_with fail
          refine (told_at 5 a0 a1 (hh) _ (by omega) (by omega) (by omega) (by omega) (by omega) (by omega) (HH.out)).mono ?_
          rintro e v3 ⟨rfl, g3⟩
          replace g3 := g2.trans (g3.mono g2.size)
          go_wp2_with fail
          refine (told_at 3 a1 a0 (lo) _ (by omega) (by omega) (by omega) (by omega) (by omega) (by omega) (HL2.out)).mono ?_
          rintro e v4 ⟨rfl, g4⟩
          replace g4 := g3.trans (g4.mono g3.size)
          go_wp2_with fail
          refine (told_at 5 a1 a0 (hh) _ (by omega) (by omega) (by omega) (by omega) (by omega) (by omega) (HH2.out)).mono ?_
          rintro e v5 ⟨rfl, g5⟩
          replace g5 := g4.trans (g5.mono g4.size)
          go_wp2_with fail
          refine (told_at 4 a0 a1 (su) _ (by omega) (by omega) (by omega) (by omega) (by omega) (by omega) (HS.out)).mono ?_
          rintro e v6 ⟨rfl, g6⟩
          replace g6 := g5.trans (g6.mono g5.size)
          go_wp2_with fail
          refine (told_at 4 a1 a0 (su) _ (by omega) (by omega) (by omega) (by omega) (by omega) (by omega) (HS2.out)).mono ?_
          rintro e v7 ⟨rfl, g7⟩
          replace g7 := g6.trans (g7.mono g6.size)
          go_wp2_with fail
          refine (told_at 5 a0 0 (0) _ (by omega) (by omega) (by omega) (by omega) (by omega) (by omega) ((hi_zero _))).mono ?_
          rintro e v8 ⟨rfl, g8⟩
          replace g8 := g7.trans (g8.mono g7.size)
          go_wp2_with fail
          refine (told_at 6 a0 a1 (su) _ (by omega) (by omega) (by omega) (by omega) (by omega) (by omega) (HU.out)).mono ?_
          rintro e v9 ⟨rfl, g9⟩
          replace g9 := g8.trans (g9.mono g8.size)
          go_wp2_with fail
          refine (told_at 4 a0 a1 (su) _ (by omega) (by omega) (by omega) (by omega) (by omega) (by omega) (HS.out)).mono ?_
          rintro e v10 ⟨rfl, g10⟩
          replace g10 := g9.trans (g10.mono g9.size)
          go_wp2
          go_ret
          exact ⟨rfl, g10⟩
        · have w1 : IntKind.u64.wrap (lo + a0) = lo + a0 - 18446744073709551616 := by rw [IntKind.wrap_u64]; omega
          go_enter Try.func3, Try.ntmps3
          go_wp2_with fail
          refine (awake_true _).mono ?_
          rintro e v1 ⟨rfl, g1⟩
          go_wp2_with fail
          refine (told_at 3 a0 a1 (lo) _ (by omega) (by omega) (by omega) (by omega) (by omega) (by omega) (HL.out)).mono ?_
          rintro e v2 ⟨rfl, g2⟩
          replace g2 := g1.trans (g2.mono g1.size)
          go_wp2_with fail
          refine (told_at 5 a0 a1 (hh) _ (by omega) (by omega) (by omega) (by omega) (by omega) (by omega) (HH.out)).mono ?_
          rintro e v3 ⟨rfl, g3⟩
          replace g3 := g2.trans (g3.mono g2.size)
          go_wp2_with fail
          refine (told_at 3 a1 a0 (lo) _ (by omega) (by omega) (by omega) (by omega) (by omega) (by omega) (HL2.out)).mono ?_
          rintro e v4 ⟨rfl, g4⟩
          replace g4 := g3.trans (g4.mono g3.size)
          go_wp2_with fail
          refine (told_at 5 a1 a0 (hh) _ (by omega) (by omega) (by omega) (by omega) (by omega) (by omega) (HH2.out)).mono ?_
          rintro e v5 ⟨rfl, g5⟩
          replace g5 := g4.trans (g5.mono g4.size)
          go_wp2_with fail
          refine (told_at 4 a0 a1 (su) _ (by omega) (by omega) (by omega) (by omega) (by omega) (by omega) (HS.out)).mono ?_
          rintro e v6 ⟨rfl, g6⟩
          replace g6 := g5.trans (g6.mono g5.size)
          go_wp2_with fail
          refine (told_at 4 a1 a0 (su) _ (by omega) (by omega) (by omega) (by omega) (by omega) (by omega) (HS2.out)).mono ?_
          rintro e v7 ⟨rfl, g7⟩
          replace g7 := g6.trans (g7.mono g6.size)
          go_wp2_with fail
          refine (told_at 5 a0 0 (0) _ (by omega) (by omega) (by omega) (by omega) (by omega) (by omega) ((hi_zero _))).mono ?_
          rintro e v8 ⟨rfl, g8⟩
          replace g8 := g7.trans (g8.mono g7.size)
          go_wp2_with fail
          refine (told_at 6 a0 a1 (su) _ (by omega) (by omega) (by omega) (by omega) (by omega) (by omega) (HU.out)).mono ?_
          rintro e v9 ⟨rfl, g9⟩
          replace g9 := g8.trans (g9.mono g8.size)
          go_wp2_with fail
          refine (told_at 4 a0 a1 (su) _ (by omega) (by omega) (by omega) (by omega) (by omega) (by omega) (HS.out)).mono ?_
          rintro e v10 ⟨rfl, g10⟩
          replace g10 := g9.trans (g10.mono g9.size)
          go_wp2
          go_ret
          exact ⟨rfl, g10⟩
      · have hl1 : (a1 != 18446744073709551615) = true := by simpa using hl
        have y2 : a1 + 1 < 18446744073709551616 := by omega
        have HX := bl.hid hl
        clear hl
        by_cases hc : lo + a0 < 18446744073709551616
        · have w1 : IntKind.u64.wrap (lo + a0) = lo + a0 := by rw [IntKind.wrap_u64]; omega
          have w2 : (lo + a0) % 18446744073709551616 = lo + a0 := by omega
          have HM : Hid (wd.doV 5 a0 (a1 + 1) = hh) := bl.hid (by rw [show wd.doV 5 a0 (a1 + 1) = wd.hi a0 (a1 + 1) from mulh_uuV a0 (a1 + 1) p0 q0 (by omega) (by omega), ps2]; omega)
          rw [w2] at HN
          clear ps2 w2
          go_enter Try.func3, Try.ntmps3
          go_wp2_with fail
          refine (awake_true _).mono ?_
          rintro e v1 ⟨rfl, g1⟩
          go_wp2_with fail
          refine (told_at 3 a0 a1 (lo) _ (by omega) (by omega) (by omega) (by omega) (by omega) (by omega) (HL.out)).mono ?_
          rintro e v2 ⟨rfl, g2⟩
          replace g2 := g1.trans (g2.mono g1.size)
          go_wp2_with fail
          refine (told_at 5 a0 a1 (hh) _ (by omega) (by omega) (by omega) (by omega) (by omega) (by omega) (HH.out)).mono ?_
          rintro e v3 ⟨rfl, g3⟩
          replace g3 := g2.trans (g3.mono g2.size)
          go_wp2_with fail
          refine (told_at 3 a1 a0 (lo) _ (by omega) (by omega) (by omega) (by omega) (by omega) (by omega) (HL2.out)).mono ?_
          rintro e v4 ⟨rfl, g4⟩
          replace g4 := g3.trans (g4.mono g3.size)
          go_wp2_with fail
          refine (told_at 5 a1 a0 (hh) _ (by omega) (by omega) (by omega) (by omega) (by omega) (by omega) (HH2.out)).mono ?_
          rintro e v5 ⟨rfl, g5⟩
          replace g5 := g4.trans (g5.mono g4.size)
          go_wp2_with fail
          refine (told_at 4 a0 a1 (su) _ (by omega) (by omega) (by omega) (by omega) (by omega) (by omega) (HS.out)).mono ?_
          rintro e v6 ⟨rfl, g6⟩
          replace g6 := g5.trans (g6.mono g5.size)
          go_wp2_with fail
          refine (told_at 4 a1 a0 (su) _ (by omega) (by omega) (by omega) (by omega) (by omega) (by omega) (HS2.out)).mono ?_
          rintro e v7 ⟨rfl, g7⟩
          replace g7 := g6.trans (g7.mono g6.size)
          go_wp2_with fail
          refine (told_at 3 a0 (a1 + 1) (_) _ (by omega) (by omega) (by omega) (by omega) (by omega) (by omega) (HN.out)).mono ?_
          rintro e v8 ⟨rfl, g8⟩
          replace g8 := g7.trans (g8.mono g7.size)
          go_wp2_with fail
          refine (told_at 5 a0 (a1 + 1) (_) _ (by omega) (by omega) (by omega) (by omega) (by omega) (by omega) (HM.out)).mono ?_
          rintro e v9 ⟨rfl, g9⟩
          replace g9 := g8.trans (g9.mono g8.size)
          go_wp2_with fail
          refine (told_at 5 a0 0 (0) _ (by omega) (by omega) (by omega) (by omega) (by omega) (by omega) ((hi_zero _))).mono ?_
          rintro e v10 ⟨rfl, g10⟩
          replace g10 := g9.trans (g10.mono g9.size)
          go_wp2_with fail
          refine (told_at 6 a0 a1 (su) _ (by omega) (by omega) (by omega) (by omega) (by omega) (by omega) (HU.out)).mono ?_
          rintro e v11 ⟨rfl, g11⟩
          replace g11 := g10.trans (g11.mono g10.size)
          go_wp2_with fail
          refine (told_at 4 a0 a1 (su) _ (by omega) (by omega) (by omega) (by omega) (by omega) (by omega) (HS.out)).mono ?_
          rintro e v12 ⟨rfl, g12⟩
          replace g12 := g11.trans (g12.mono g11.size)
          go_wp2
          go_ret
          exact ⟨rfl, g12⟩
        · have w1 : IntKind.u64.wrap (lo + a0) = lo + a0 - 18446744073709551616 := by rw [IntKind.wrap_u64]; omega
          have w2 : (lo + a0) % 18446744073709551616 = lo + a0 - 18446744073709551616 := by omega
          have hb2 := (wd_hi_bd a0 (a1 + 1) p0 q0 (by omega) (by omega)).2
          have h2 : hh + 1 < 18446744073709551616 := by rw [ps2] at hb2; omega
          clear hb2
          have HM : Hid (wd.doV 5 a0 (a1 + 1) = hh + 1) := bl.hid (by rw [show wd.doV 5 a0 (a1 + 1) = wd.hi a0 (a1 + 1) from mulh_uuV a0 (a1 + 1) p0 q0 (by omega) (by omega), ps2]; omega)
          rw [w2] at HN
          clear ps2 w2
          go_enter Try.func3, Try.ntmps3
          go_wp2_with fail
          refine (awake_true _).mono ?_
          rintro e v1 ⟨rfl, g1⟩
          go_wp2_with fail
          refine (told_at 3 a0 a1 (lo) _ (by omega) (by omega) (by omega) (by omega) (by omega) (by omega) (HL.out)).mono ?_
          rintro e v2 ⟨rfl, g2⟩
          replace g2 := g1.trans (g2.mono g1.size)
          go_wp2_with fail
          refine (told_at 5 a0 a1 (hh) _ (by omega) (by omega) (by omega) (by omega) (by omega) (by omega) (HH.out)).mono ?_
          rintro e v3 ⟨rfl, g3⟩
          replace g3 := g2.trans (g3.mono g2.size)
          go_wp2_with fail
          refine (told_at 3 a1 a0 (lo) _ (by omega) (by omega) (by omega) (by omega) (by omega) (by omega) (HL2.out)).mono ?_
          rintro e v4 ⟨rfl, g4⟩
          replace g4 := g3.trans (g4.mono g3.size)
          go_wp2_with fail
          refine (told_at 5 a1 a0 (hh) _ (by omega) (by omega) (by omega) (by omega) (by omega) (by omega) (HH2.out)).mono ?_
          rintro e v5 ⟨rfl, g5⟩
          replace g5 := g4.trans (g5.mono g4.size)
          go_wp2_with fail
          refine (told_at 4 a0 a1 (su) _ (by omega) (by omega) (by omega) (by omega) (by omega) (by omega) (HS.out)).mono ?_
          rintro e v6 ⟨rfl, g6⟩
          replace g6 := g5.trans (g6.mono g5.size)
          go_wp2_with fail
          refine (told_at 4 a1 a0 (su) _ (by omega) (by omega) (by omega) (by omega) (by omega) (by omega) (HS2.out)).mono ?_
          rintro e v7 ⟨rfl, g7⟩
          replace g7 := g6.trans (g7.mono g6.size)
          go_wp2_with fail
          refine (told_at 3 a0 (a1 + 1) (_) _ (by omega) (by omega) (by omega) (by omega) (by omega) (by omega) (HN.out)).mono ?_
          rintro e v8 ⟨rfl, g8⟩
          replace g8 := g7.trans (g8.mono g7.size)
          go_wp2_with fail
          refine (told_at 5 a0 (a1 + 1) (_) _ (by omega) (by omega) (by omega) (by omega) (by omega) (by omega) (HM.out)).mono ?_
          rintro e v9 ⟨rfl, g9⟩
          replace g9 := g8.trans (g9.mono g8.size)
          go_wp2_with fail
          refine (told_at 5 a0 0 (0) _ (by omega) (by omega) (by omega) (by omega) (by omega) (by omega) ((hi_zero _))).mono ?_
          rintro e v10 ⟨rfl, g10⟩
          replace g10 := g9.trans (g10.mono g9.size)
          go_wp2_with fail
          refine (told_at 6 a0 a1 (su) _ (by omega) (by omega) (by omega) (by omega) (by omega) (by omega) (HU.out)).mono ?_
          rintro e v11 ⟨rfl, g11⟩
          replace g11 := g10.trans (g11.mono g10.size)
          go_wp2_with fail
          refine (told_at 4 a0 a1 (su) _ (by omega) (by omega) (by omega) (by omega) (by omega) (by omega) (HS.out)).mono ?_
          rintro e v12 ⟨rfl, g12⟩
          replace g12 := g11.trans (g12.mono g11.size)
          go_wp2
          go_ret
          exact ⟨rfl, g12⟩
  · by_cases gy : 9223372036854775808 ≤ a1
    · have m1 : hh = su := by (try rw [IntKind.wrap_u64]); have := hm.2; simp [gx] at this; omega
      subst m1
      have m2 : IntKind.u64.wrap (hh - a0) = ss := by (try rw [IntKind.wrap_u64]); have k1 := hm.1; have k2 := hm.2; simp [gx] at k2; simp [gx, gy] at k1; omega
      skip
      clear hm
      by_cases hl : a1 = 18446744073709551615
      · have hl1 : (a1 != 18446744073709551615) = false := by simpa using hl
        have HX := bl.hid hl
        clear ps2 hl
        by_cases hc : lo + a0 < 18446744073709551616
        · have w1 : IntKind.u64.wrap (lo + a0) = lo + a0 := by rw [IntKind.wrap_u64]; omega
          go_enter Try.func3, Try.ntmps3
          go_wp2_with fail
          refine (awake_true _).mono ?_
          rintro e v1 ⟨rfl, g1⟩
          go_wp2_with fail
          refine (told_at 3 a0 a1 (lo) _ (by omega) (by omega) (by omega) (by omega) (by omega) (by omega) (HL.out)).mono ?_
          rintro e v2 ⟨rfl, g2⟩
          replace g2 := g1.trans (g2.mono g1.size)
          go_wp2_with fail
          refine (told_at 5 a0 a1 (hh) _ (by omega) (by omega) (by omega) (by omega) (by omega) (by omega) (HH.out)).mono ?_
          rintro e v3 ⟨rfl, g3⟩
          replace g3 := g2.trans (g3.mono g2.size)
          go_wp2_with fail
          refine (told_at 3 a1 a0 (lo) _ (by omega) (by omega) (by omega) (by omega) (by omega) (by omega) (HL2.out)).mono ?_
          rintro e v4 ⟨rfl, g4⟩
          replace g4 := g3.trans (g4.mono g3.size)
          go_wp2_with fail
          refine (told_at 5 a1 a0 (hh) _ (by omega) (by omega) (by omega) (by omega) (by omega) (by omega) (HH2.out)).mono ?_
          rintro e v5 ⟨rfl, g5⟩
          replace g5 := g4.trans (g5.mono g4.size)
          go_wp2_with fail
          refine (told_at 4 a0 a1 (ss) _ (by omega) (by omega) (by omega) (by omega) (by omega) (by omega) (HS.out)).mono ?_
          rintro e v6 ⟨rfl, g6⟩
          replace g6 := g5.trans (g6.mono g5.size)
          go_wp2_with fail
          refine (told_at 4 a1 a0 (ss) _ (by omega) (by omega) (by omega) (by omega) (by omega) (by omega) (HS2.out)).mono ?_
          rintro e v7 ⟨rfl, g7⟩
          replace g7 := g6.trans (g7.mono g6.size)
          go_wp2_with fail
          refine (told_at 5 a0 0 (0) _ (by omega) (by omega) (by omega) (by omega) (by omega) (by omega) ((hi_zero _))).mono ?_
          rintro e v8 ⟨rfl, g8⟩
          replace g8 := g7.trans (g8.mono g7.size)
          go_wp2_with fail
          refine (told_at 6 a0 a1 (hh) _ (by omega) (by omega) (by omega) (by omega) (by omega) (by omega) (HU.out)).mono ?_
          rintro e v9 ⟨rfl, g9⟩
          replace g9 := g8.trans (g9.mono g8.size)
          go_wp2_with fail
          refine (told_at 4 a0 a1 (ss) _ (by omega) (by omega) (by omega) (by omega) (by omega) (by omega) (HS.out)).mono ?_
          rintro e v10 ⟨rfl, g10⟩
          replace g10 := g9.trans (g10.mono g9.size)
          go_wp2
          go_ret
          exact ⟨rfl, g10⟩
        · have w1 : IntKind.u64.wrap (lo + a0) = lo + a0 - 18446744073709551616 := by rw [IntKind.wrap_u64]; omega
          go_enter Try.func3, Try.ntmps3
          go_wp2_with fail
          refine (awake_true _).mono ?_
          rintro e v1 ⟨rfl, g1⟩
          go_wp2_with fail
          refine (told_at 3 a0 a1 (lo) _ (by omega) (by omega) (by omega) (by omega) (by omega) (by omega) (HL.out)).mono ?_
          rintro e v2 ⟨rfl, g2⟩
          replace g2 := g1.trans (g2.mono g1.size)
          go_wp2_with fail
          refine (told_at 5 a0 a1 (hh) _ (by omega) (by omega) (by omega) (by omega) (by omega) (by omega) (HH.out)).mono ?_
          rintro e v3 ⟨rfl, g3⟩
          replace g3 := g2.trans (g3.mono g2.size)
          go_wp2_with fail
          refine (told_at 3 a1 a0 (lo) _ (by omega) (by omega) (by omega) (by omega) (by omega) (by omega) (HL2.out)).mono ?_
          rintro e v4 ⟨rfl, g4⟩
          replace g4 := g3.trans (g4.mono g3.size)
          go_wp2_with fail
          refine (told_at 5 a1 a0 (hh) _ (by omega) (by omega) (by omega) (by omega) (by omega) (by omega) (HH2.out)).mono ?_
          rintro e v5 ⟨rfl, g5⟩
          replace g5 := g4.trans (g5.mono g4.size)
          go_wp2_with fail
          refine (told_at 4 a0 a1 (ss) _ (by omega) (by omega) (by omega) (by omega) (by omega) (by omega) (HS.out)).mono ?_
          rintro e v6 ⟨rfl, g6⟩
          replace g6 := g5.trans (g6.mono g5.size)
          go_wp2_with fail
          refine (told_at 4 a1 a0 (ss) _ (by omega) (by omega) (by omega) (by omega) (by omega) (by omega) (HS2.out)).mono ?_
          rintro e v7 ⟨rfl, g7⟩
          replace g7 := g6.trans (g7.mono g6.size)
          go_wp2_with fail
          refine (told_at 5 a0 0 (0) _ (by omega) (by omega) (by omega) (by omega) (by omega) (by omega) ((hi_zero _))).mono ?_
          rintro e v8 ⟨rfl, g8⟩
          replace g8 := g7.trans (g8.mono g7.size)
          go_wp2_with fail
          refine (told_at 6 a0 a1 (hh) _ (by omega) (by omega) (by omega) (by omega) (by omega) (by omega) (HU.out)).mono ?_
          rintro e v9 ⟨rfl, g9⟩
          replace g9 := g8.trans (g9.mono g8.size)
          go_wp2_with fail
          refine (told_at 4 a0 a1 (ss) _ (by omega) (by omega) (by omega) (by omega) (by omega) (by omega) (HS.out)).mono ?_
          rintro e v10 ⟨rfl, g10⟩
          replace g10 := g9.trans (g10.mono g9.size)
          go_wp2
          go_ret
          exact ⟨rfl, g10⟩
      · have hl1 : (a1 != 18446744073709551615) = true := by simpa using hl
        have y2 : a1 + 1 < 18446744073709551616 := by omega
        have HX := bl.hid hl
        clear hl
        by_cases hc : lo + a0 < 18446744073709551616
        · have w1 : IntKind.u64.wrap (lo + a0) = lo + a0 := by rw [IntKind.wrap_u64]; omega
          have w2 : (lo + a0) % 18446744073709551616 = lo + a0 := by omega
          have HM : Hid (wd.doV 5 a0 (a1 + 1) = hh) := bl.hid (by rw [show wd.doV 5 a0 (a1 + 1) = wd.hi a0 (a1 + 1) from mulh_uuV a0 (a1 + 1) p0 q0 (by omega) (by omega), ps2]; omega)
          rw [w2] at HN
          clear ps2 w2
          go_enter Try.func3, Try.ntmps3
          go_wp2_with fail
          refine (awake_true _).mono ?_
          rintro e v1 ⟨rfl, g1⟩
          go_wp2_with fail
          refine (told_at 3 a0 a1 (lo) _ (by omega) (by omega) (by omega) (by omega) (by omega) (by omega) (HL.out)).mono ?_
          rintro e v2 ⟨rfl, g2⟩
          replace g2 := g1.trans (g2.mono g1.size)
          go_wp2_with fail
          refine (told_at 5 a0 a1 (hh) _ (by omega) (by omega) (by omega) (by omega) (by omega) (by omega) (HH.out)).mono ?_
          rintro e v3 ⟨rfl, g3⟩
          replace g3 := g2.trans (g3.mono g2.size)
          go_wp2_with fail
          refine (told_at 3 a1 a0 (lo) _ (by omega) (by omega) (by omega) (by omega) (by omega) (by omega) (HL2.out)).mono ?_
          rintro e v4 ⟨rfl, g4⟩
          replace g4 := g3.trans (g4.mono g3.size)
          go_wp2_with fail
          refine (told_at 5 a1 a0 (hh) _ (by omega) (by omega) (by omega) (by omega) (by omega) (by omega) (HH2.out)).mono ?_
          rintro e v5 ⟨rfl, g5⟩
          replace g5 := g4.trans (g5.mono g4.size)
          go_wp2_with fail
          refine (told_at 4 a0 a1 (ss) _ (by omega) (by omega) (by omega) (by omega) (by omega) (by omega) (HS.out)).mono ?_
          rintro e v6 ⟨rfl, g6⟩
          replace g6 := g5.trans (g6.mono g5.size)
          go_wp2_with fail
          refine (told_at 4 a1 a0 (ss) _ (by omega) (by omega) (by omega) (by omega) (by omega) (by omega) (HS2.out)).mono ?_
          rintro e v7 ⟨rfl, g7⟩
          replace g7 := g6.trans (g7.mono g6.size)
          go_wp2_with fail
          refine (told_at 3 a0 (a1 + 1) (_) _ (by omega) (by omega) (by omega) (by omega) (by omega) (by omega) (HN.out)).mono ?_
          rintro e v8 ⟨rfl, g8⟩
          replace g8 := g7.trans (g8.mono g7.size)
          go_wp2_with fail
          refine (told_at 5 a0 (a1 + 1) (_) _ (by omega) (by omega) (by omega) (by omega) (by omega) (by omega) (HM.out)).mono ?_
          rintro e v9 ⟨rfl, g9⟩
          replace g9 := g8.trans (g9.mono g8.size)
          go_wp2_with fail
          refine (told_at 5 a0 0 (0) _ (by omega) (by omega) (by omega) (by omega) (by omega) (by omega) ((hi_zero _))).mono ?_
          rintro e v10 ⟨rfl, g10⟩
          replace g10 := g9.trans (g10.mono g9.size)
          go_wp2_with fail
          refine (told_at 6 a0 a1 (hh) _ (by omega) (by omega) (by omega) (by omega) (by omega) (by omega) (HU.out)).mono ?_
          rintro e v11 ⟨rfl, g11⟩
          replace g11 := g10.trans (g11.mono g10.size)
          go_wp2_with fail
          refine (told_at 4 a0 a1 (ss) _ (by omega) (by omega) (by omega) (by omega) (by omega) (by omega) (HS.out)).mono ?_
          rintro e v12 ⟨rfl, g12⟩
          replace g12 := g11.trans (g12.mono g11.size)
          go_wp2
          go_ret
          exact ⟨rfl, g12⟩
        · have w1 : IntKind.u64.wrap (lo + a0) = lo + a0 - 18446744073709551616 := by rw [IntKind.wrap_u64]; omega
          have w2 : (lo + a0) % 18446744073709551616 = lo + a0 - 18446744073709551616 := by omega
          have hb2 := (wd_hi_bd a0 (a1 + 1) p0 q0 (by omega) (by omega)).2
          have h2 : hh + 1 < 18446744073709551616 := by rw [ps2] at hb2; omega
          clear hb2
          have HM : Hid (wd.doV 5 a0 (a1 + 1) = hh + 1) := bl.hid (by rw [show wd.doV 5 a0 (a1 + 1) = wd.hi a0 (a1 + 1) from mulh_uuV a0 (a1 + 1) p0 q0 (by omega) (by omega), ps2]; omega)
          rw [w2] at HN
          clear ps2 w2
          go_enter Try.func3, Try.ntmps3
          go_wp2_with fail
          refine (awake_true _).mono ?_
          rintro e v1 ⟨rfl, g1⟩
          go_wp2_with fail
          refine (told_at 3 a0 a1 (lo) _ (by omega) (by omega) (by omega) (by omega) (by omega) (by omega) (HL.out)).mono ?_
          rintro e v2 ⟨rfl, g2⟩
          replace g2 := g1.trans (g2.mono g1.size)
          go_wp2_with fail
          refine (told_at 5 a0 a1 (hh) _ (by omega) (by omega) (by omega) (by omega) (by omega) (by omega) (HH.out)).mono ?_
          rintro e v3 ⟨rfl, g3⟩
          replace g3 := g2.trans (g3.mono g2.size)
          go_wp2_with fail
          refine (told_at 3 a1 a0 (lo) _ (by omega) (by omega) (by omega) (by omega) (by omega) (by omega) (HL2.out)).mono ?_
          rintro e v4 ⟨rfl, g4⟩
          replace g4 := g3.trans (g4.mono g3.size)
          go_wp2_with fail
          refine (told_at 5 a1 a0 (hh) _ (by omega) (by omega) (by omega) (by omega) (by omega) (by omega) (HH2.out)).mono ?_
          rintro e v5 ⟨rfl, g5⟩
          replace g5 := g4.trans (g5.mono g4.size)
          go_wp2_with fail
          refine (told_at 4 a0 a1 (ss) _ (by omega) (by omega) (by omega) (by omega) (by omega) (by omega) (HS.out)).mono ?_
          rintro e v6 ⟨rfl, g6⟩
          replace g6 := g5.trans (g6.mono g5.size)
          go_wp2_with fail
          refine (told_at 4 a1 a0 (ss) _ (by omega) (by omega) (by omega) (by omega) (by omega) (by omega) (HS2.out)).mono ?_
          rintro e v7 ⟨rfl, g7⟩
          replace g7 := g6.trans (g7.mono g6.size)
          go_wp2_with fail
          refine (told_at 3 a0 (a1 + 1) (_) _ (by omega) (by omega) (by omega) (by omega) (by omega) (by omega) (HN.out)).mono ?_
          rintro e v8 ⟨rfl, g8⟩
          replace g8 := g7.trans (g8.mono g7.size)
          go_wp2_with fail
          refine (told_at 5 a0 (a1 + 1) (_) _ (by omega) (by omega) (by omega) (by omega) (by omega) (by omega) (HM.out)).mono ?_
          rintro e v9 ⟨rfl, g9⟩
          replace g9 := g8.trans (g9.mono g8.size)
          go_wp2_with fail
          refine (told_at 5 a0 0 (0) _ (by omega) (by omega) (by omega) (by omega) (by omega) (by omega) ((hi_zero _))).mono ?_
          rintro e v10 ⟨rfl, g10⟩
          replace g10 := g9.trans (g10.mono g9.size)
          go_wp2_with fail
          refine (told_at 6 a0 a1 (hh) _ (by omega) (by omega) (by omega) (by omega) (by omega) (by omega) (HU.out)).mono ?_
          rintro e v11 ⟨rfl, g11⟩
          replace g11 := g10.trans (g11.mono g10.size)
          go_wp2_with fail
          refine (told_at 4 a0 a1 (ss) _ (by omega) (by omega) (by omega) (by omega) (by omega) (by omega) (HS.out)).mono ?_
          rintro e v12 ⟨rfl, g12⟩
          replace g12 := g11.trans (g12.mono g11.size)
          go_wp2
          go_ret
          exact ⟨rfl, g12⟩
    · have m1 : hh = su := by (try rw [IntKind.wrap_u64]); have := hm.2; simp [gx] at this; omega
      subst m1
      have m2 : hh = ss := by (try rw [IntKind.wrap_u64]); have k1 := hm.1; have k2 := hm.2; simp [gx] at k2; simp [gx, gy] at k1; omega
      subst m2
      clear hm
      by_cases hl : a1 = 18446744073709551615
      · have hl1 : (a1 != 18446744073709551615) = false := by simpa using hl
        have HX := bl.hid hl
        clear ps2 hl
        by_cases hc : lo + a0 < 18446744073709551616
        · have w1 : IntKind.u64.wrap (lo + a0) = lo + a0 := by rw [IntKind.wrap_u64]; omega
          go_enter Try.func3, Try.ntmps3
          go_wp2_with fail
          refine (awake_true _).mono ?_
          rintro e v1 ⟨rfl, g1⟩
          go_wp2_with fail
          refine (told_at 3 a0 a1 (lo) _ (by omega) (by omega) (by omega) (by omega) (by omega) (by omega) (HL.out)).mono ?_
          rintro e v2 ⟨rfl, g2⟩
          replace g2 := g1.trans (g2.mono g1.size)
          go_wp2_with fail
          refine (told_at 5 a0 a1 (hh) _ (by omega) (by omega) (by omega) (by omega) (by omega) (by omega) (HH.out)).mono ?_
          rintro e v3 ⟨rfl, g3⟩
          replace g3 := g2.trans (g3.mono g2.size)
          go_wp2_with fail
          refine (told_at 3 a1 a0 (lo) _ (by omega) (by omega) (by omega) (by omega) (by omega) (by omega) (HL2.out)).mono ?_
          rintro e v4 ⟨rfl, g4⟩
          replace g4 := g3.trans (g4.mono g3.size)
          go_wp2_with fail
          refine (told_at 5 a1 a0 (hh) _ (by omega) (by omega) (by omega) (by omega) (by omega) (by omega) (HH2.out)).mono ?_
          rintro e v5 ⟨rfl, g5⟩
          replace g5 := g4.trans (g5.mono g4.size)
          go_wp2_with fail
          refine (told_at 4 a0 a1 (hh) _ (by omega) (by omega) (by omega) (by omega) (by omega) (by omega) (HS.out)).mono ?_
          rintro e v6 ⟨rfl, g6⟩
          replace g6 := g5.trans (g6.mono g5.size)
          go_wp2_with fail
          refine (told_at 4 a1 a0 (hh) _ (by omega) (by omega) (by omega) (by omega) (by omega) (by omega) (HS2.out)).mono ?_
          rintro e v7 ⟨rfl, g7⟩
          replace g7 := g6.trans (g7.mono g6.size)
          go_wp2_with fail
          refine (told_at 5 a0 0 (0) _ (by omega) (by omega) (by omega) (by omega) (by omega) (by omega) ((hi_zero _))).mono ?_
          rintro e v8 ⟨rfl, g8⟩
          replace g8 := g7.trans (g8.mono g7.size)
          go_wp2_with fail
          refine (told_at 6 a0 a1 (hh) _ (by omega) (by omega) (by omega) (by omega) (by omega) (by omega) (HU.out)).mono ?_
          rintro e v9 ⟨rfl, g9⟩
          replace g9 := g8.trans (g9.mono g8.size)
          go_wp2_with fail
          refine (told_at 4 a0 a1 (hh) _ (by omega) (by omega) (by omega) (by omega) (by omega) (by omega) (HS.out)).mono ?_
          rintro e v10 ⟨rfl, g10⟩
          replace g10 := g9.trans (g10.mono g9.size)
          go_wp2
          go_ret
          exact ⟨rfl, g10⟩
        · have w1 : IntKind.u64.wrap (lo + a0) = lo + a0 - 18446744073709551616 := by rw [IntKind.wrap_u64]; omega
          go_enter Try.func3, Try.ntmps3
          go_wp2_with fail
          refine (awake_true _).mono ?_
          rintro e v1 ⟨rfl, g1⟩
          go_wp2_with fail
          refine (told_at 3 a0 a1 (lo) _ (by omega) (by omega) (by omega) (by omega) (by omega) (by omega) (HL.out)).mono ?_
          rintro e v2 ⟨rfl, g2⟩
          replace g2 := g1.trans (g2.mono g1.size)
          go_wp2_with fail
          refine (told_at 5 a0 a1 (hh) _ (by omega) (by omega) (by omega) (by omega) (by omega) (by omega) (HH.out)).mono ?_
          rintro e v3 ⟨rfl, g3⟩
          replace g3 := g2.trans (g3.mono g2.size)
          go_wp2_with fail
          refine (told_at 3 a1 a0 (lo) _ (by omega) (by omega) (by omega) (by omega) (by omega) (by omega) (HL2.out)).mono ?_
          rintro e v4 ⟨rfl, g4⟩
          replace g4 := g3.trans (g4.mono g3.size)
          go_wp2_with fail
          refine (told_at 5 a1 a0 (hh) _ (by omega) (by omega) (by omega) (by omega) (by omega) (by omega) (HH2.out)).mono ?_
          rintro e v5 ⟨rfl, g5⟩
          replace g5 := g4.trans (g5.mono g4.size)
          go_wp2_with fail
          refine (told_at 4 a0 a1 (hh) _ (by omega) (by omega) (by omega) (by omega) (by omega) (by omega) (HS.out)).mono ?_
          rintro e v6 ⟨rfl, g6⟩
          replace g6 := g5.trans (g6.mono g5.size)
          go_wp2_with fail
          refine (told_at 4 a1 a0 (hh) _ (by omega) (by omega) (by omega) (by omega) (by omega) (by omega) (HS2.out)).mono ?_
          rintro e v7 ⟨rfl, g7⟩
          replace g7 := g6.trans (g7.mono g6.size)
          go_wp2_with fail
          refine (told_at 5 a0 0 (0) _ (by omega) (by omega) (by omega) (by omega) (by omega) (by omega) ((hi_zero _))).mono ?_
          rintro e v8 ⟨rfl, g8⟩
          replace g8 := g7.trans (g8.mono g7.size)
          go_wp2_with fail
          refine (told_at 6 a0 a1 (hh) _ (by omega) (by omega) (by omega) (by omega) (by omega) (by omega) (HU.out)).mono ?_
          rintro e v9 ⟨rfl, g9⟩
          replace g9 := g8.trans (g9.mono g8.size)
          go_wp2_with fail
          refine (told_at 4 a0 a1 (hh) _ (by omega) (by omega) (by omega) (by omega) (by omega) (by omega) (HS.out)).mono ?_
          rintro e v10 ⟨rfl, g10⟩
          replace g10 := g9.trans (g10.mono g9.size)
          go_wp2
          go_ret
          exact ⟨rfl, g10⟩
      · have hl1 : (a1 != 18446744073709551615) = true := by simpa using hl
        have y2 : a1 + 1 < 18446744073709551616 := by omega
        have HX := bl.hid hl
        clear hl
        by_cases hc : lo + a0 < 18446744073709551616
        · have w1 : IntKind.u64.wrap (lo + a0) = lo + a0 := by rw [IntKind.wrap_u64]; omega
          have w2 : (lo + a0) % 18446744073709551616 = lo + a0 := by omega
          have HM : Hid (wd.doV 5 a0 (a1 + 1) = hh) := bl.hid (by rw [show wd.doV 5 a0 (a1 + 1) = wd.hi a0 (a1 + 1) from mulh_uuV a0 (a1 + 1) p0 q0 (by omega) (by omega), ps2]; omega)
          rw [w2] at HN
          clear ps2 w2
          go_enter Try.func3, Try.ntmps3
          go_wp2_with fail
          refine (awake_true _).mono ?_
          rintro e v1 ⟨rfl, g1⟩
          go_wp2_with fail
          refine (told_at 3 a0 a1 (lo) _ (by omega) (by omega) (by omega) (by omega) (by omega) (by omega) (HL.out)).mono ?_
          rintro e v2 ⟨rfl, g2⟩
          replace g2 := g1.trans (g2.mono g1.size)
          go_wp2_with fail
          refine (told_at 5 a0 a1 (hh) _ (by omega) (by omega) (by omega) (by omega) (by omega) (by omega) (HH.out)).mono ?_
          rintro e v3 ⟨rfl, g3⟩
          replace g3 := g2.trans (g3.mono g2.size)
          go_wp2_with fail
          refine (told_at 3 a1 a0 (lo) _ (by omega) (by omega) (by omega) (by omega) (by omega) (by omega) (HL2.out)).mono ?_
          rintro e v4 ⟨rfl, g4⟩
          replace g4 := g3.trans (g4.mono g3.size)
          go_wp2_with fail
          refine (told_at 5 a1 a0 (hh) _ (by omega) (by omega) (by omega) (by omega) (by omega) (by omega) (HH2.out)).mono ?_
          rintro e v5 ⟨rfl, g5⟩
          replace g5 := g4.trans (g5.mono g4.size)
          go_wp2_with fail
          refine (told_at 4 a0 a1 (hh) _ (by omega) (by omega) (by omega) (by omega) (by omega) (by omega) (HS.out)).mono ?_
          rintro e v6 ⟨rfl, g6⟩
          replace g6 := g5.trans (g6.mono g5.size)
          go_wp2_with fail
          refine (told_at 4 a1 a0 (hh) _ (by omega) (by omega) (by omega) (by omega) (by omega) (by omega) (HS2.out)).mono ?_
          rintro e v7 ⟨rfl, g7⟩
          replace g7 := g6.trans (g7.mono g6.size)
          go_wp2_with fail
          refine (told_at 3 a0 (a1 + 1) (_) _ (by omega) (by omega) (by omega) (by omega) (by omega) (by omega) (HN.out)).mono ?_
          rintro e v8 ⟨rfl, g8⟩
          replace g8 := g7.trans (g8.mono g7.size)
          go_wp2_with fail
          refine (told_at 5 a0 (a1 + 1) (_) _ (by omega) (by omega) (by omega) (by omega) (by omega) (by omega) (HM.out)).mono ?_
          rintro e v9 ⟨rfl, g9⟩
          replace g9 := g8.trans (g9.mono g8.size)
          go_wp2_with fail
          refine (told_at 5 a0 0 (0) _ (by omega) (by omega) (by omega) (by omega) (by omega) (by omega) ((hi_zero _))).mono ?_
          rintro e v10 ⟨rfl, g10⟩
          replace g10 := g9.trans (g10.mono g9.size)
          go_wp2_with fail
          refine (told_at 6 a0 a1 (hh) _ (by omega) (by omega) (by omega) (by omega) (by omega) (by omega) (HU.out)).mono ?_
          rintro e v11 ⟨rfl, g11⟩
          replace g11 := g10.trans (g11.mono g10.size)
          go_wp2_with fail
          refine (told_at 4 a0 a1 (hh) _ (by omega) (by omega) (by omega) (by omega) (by omega) (by omega) (HS.out)).mono ?_
          rintro e v12 ⟨rfl, g12⟩
          replace g12 := g11.trans (g12.mono g11.size)
          go_wp2
          go_ret
          exact ⟨rfl, g12⟩
        · have w1 : IntKind.u64.wrap (lo + a0) = lo + a0 - 18446744073709551616 := by rw [IntKind.wrap_u64]; omega
          have w2 : (lo + a0) % 18446744073709551616 = lo + a0 - 18446744073709551616 := by omega
          have hb2 := (wd_hi_bd a0 (a1 + 1) p0 q0 (by omega) (by omega)).2
          have h2 : hh + 1 < 18446744073709551616 := by rw [ps2] at hb2; omega
          clear hb2
          have HM : Hid (wd.doV 5 a0 (a1 + 1) = hh + 1) := bl.hid (by rw [show wd.doV 5 a0 (a1 + 1) = wd.hi a0 (a1 + 1) from mulh_uuV a0 (a1 + 1) p0 q0 (by omega) (by omega), ps2]; omega)
          rw [w2] at HN
          clear ps2 w2
          go_enter Try.func3, Try.ntmps3
          go_wp2_with fail
          refine (awake_true _).mono ?_
          rintro e v1 ⟨rfl, g1⟩
          go_wp2_with fail
          refine (told_at 3 a0 a1 (lo) _ (by omega) (by omega) (by omega) (by omega) (by omega) (by omega) (HL.out)).mono ?_
          rintro e v2 ⟨rfl, g2⟩
          replace g2 := g1.trans (g2.mono g1.size)
          go_wp2_with fail
          refine (told_at 5 a0 a1 (hh) _ (by omega) (by omega) (by omega) (by omega) (by omega) (by omega) (HH.out)).mono ?_
          rintro e v3 ⟨rfl, g3⟩
          replace g3 := g2.trans (g3.mono g2.size)
          go_wp2_with fail
          refine (told_at 3 a1 a0 (lo) _ (by omega) (by omega) (by omega) (by omega) (by omega) (by omega) (HL2.out)).mono ?_
          rintro e v4 ⟨rfl, g4⟩
          replace g4 := g3.trans (g4.mono g3.size)
          go_wp2_with fail
          refine (told_at 5 a1 a0 (hh) _ (by omega) (by omega) (by omega) (by omega) (by omega) (by omega) (HH2.out)).mono ?_
          rintro e v5 ⟨rfl, g5⟩
          replace g5 := g4.trans (g5.mono g4.size)
          go_wp2_with fail
          refine (told_at 4 a0 a1 (hh) _ (by omega) (by omega) (by omega) (by omega) (by omega) (by omega) (HS.out)).mono ?_
          rintro e v6 ⟨rfl, g6⟩
          replace g6 := g5.trans (g6.mono g5.size)
          go_wp2_with fail
          refine (told_at 4 a1 a0 (hh) _ (by omega) (by omega) (by omega) (by omega) (by omega) (by omega) (HS2.out)).mono ?_
          rintro e v7 ⟨rfl, g7⟩
          replace g7 := g6.trans (g7.mono g6.size)
          go_wp2_with fail
          refine (told_at 3 a0 (a1 + 1) (_) _ (by omega) (by omega) (by omega) (by omega) (by omega) (by omega) (HN.out)).mono ?_
          rintro e v8 ⟨rfl, g8⟩
          replace g8 := g7.trans (g8.mono g7.size)
          go_wp2_with fail
          refine (told_at 5 a0 (a1 + 1) (_) _ (by omega) (by omega) (by omega) (by omega) (by omega) (by omega) (HM.out)).mono ?_
          rintro e v9 ⟨rfl, g9⟩
          replace g9 := g8.trans (g9.mono g8.size)
          go_wp2_with fail
          refine (told_at 5 a0 0 (0) _ (by omega) (by omega) (by omega) (by omega) (by omega) (by omega) ((hi_zero _))).mono ?_
          rintro e v10 ⟨rfl, g10⟩
          replace g10 := g9.trans (g10.mono g9.size)
          go_wp2_with fail
          refine (told_at 6 a0 a1 (hh) _ (by omega) (by omega) (by omega) (by omega) (by omega) (by omega) (HU.out)).mono ?_
          rintro e v11 ⟨rfl, g11⟩
          replace g11 := g10.trans (g11.mono g10.size)
          go_wp2_with fail
          refine (told_at 4 a0 a1 (hh) _ (by omega) (by omega) (by omega) (by omega) (by omega) (by omega) (HS.out)).mono ?_
          rintro e v12 ⟨rfl, g12⟩
          replace g12 := g11.trans (g12.mono g11.size)
          go_wp2
          go_ret
          exact ⟨rfl, g12⟩
end Go.Proofs.Ytimchannmigioaa
