/- StubTells, StubKnown and StubBack, walked: each returns true. -/
import Derived.Test.YtlajigmejbhfdaaLawWalks
namespace Go.Proofs.Ytlajigmejbhfdaa
open Go.RowKit
set_option linter.unusedVariables false

theorem low_bd (a : Int) : -2048 ≤ pl.low a ∧ pl.low a ≤ 2047 ∧ (a - pl.low a) / 4096 * 4096 + pl.low a = a := by
  unfold pl.low
  split <;> omega
def UpPost (a : Int) (w : World) (e : Ending) (w' : World) : Prop := ∃ hi lo : Int, hi * 4096 + lo = a ∧ -2048 ≤ lo ∧ lo ≤ 2047 ∧ e = .returned (.tuple #[.int .i64 hi, .int .i64 lo]) ∧ Below w.heap.size w w'
theorem upper_var (a : Int) (w : World) (h0 : 0 ≤ a) (h1 : 1073741824 ≤ a) (h2 : a % 16 = 0) (h3 : a < 1073741824 + 16 * 32768) :
    Calls Try.prog 14 #[.int .u64 a] w (UpPost a w) :=
  (upper_ok a w h0 h1 h2 h3).mono fun e w' h => ⟨_, _, (low_bd a).2.2, (low_bd a).1, (low_bd a).2.1, h.1, h.2⟩
theorem upper_at (a hi lo : Int) (w : World) (h1 : 1073741824 ≤ a) (h2 : a % 16 = 0) (h3 : a < 1073741824 + 16 * 32768) (hl : pl.low a = lo) (hh : (a - lo) / 4096 = hi) :
    Calls Try.prog 14 #[.int .u64 a] w fun e w' => e = .returned (.tuple #[.int .i64 hi, .int .i64 lo]) ∧ Below w.heap.size w w' := by
  subst hl
  subst hh
  exact upper_ok a w (by omega) h1 h2 h3

theorem tells_walk (a0 a1 a2 : Int) (w0 : (Lit.int .i64 a0).wf = true) (w1 : (Lit.int .i64 a1).wf = true) (w2 : (Lit.int .u64 a2).wf = true) (w : World) :
    Calls Try.prog 4 #[.int .i64 a0, .int .i64 a1, .int .u64 a2] w fun e w' => e = .returned (.bool true) ∧ Below w.heap.size w w' := by
  have y0 := (bl.wf_u64 w2).1
  have y1 := (bl.wf_u64 w2).2
  clear w0 w1 w2
  have vv : (0 ≤ a0 ∧ a0 < 8 ∧ 0 ≤ a1 ∧ a1 < 4096) ∨ Hid (a0 < 0 ∨ 8 ≤ a0 ∨ a1 < 0 ∨ 4096 ≤ a1) := by
    by_cases h : 0 ≤ a0 ∧ a0 < 8 ∧ 0 ≤ a1 ∧ a1 < 4096
    · exact .inl h
    · exact .inr (bl.hid (by omega))
  have ss : (1073741824 ≤ a2 ∧ a2 % 16 = 0 ∧ a2 < 1073741824 + 16 * 32768) ∨ Hid (a2 < 1073741824 ∨ a2 % 16 ≠ 0 ∨ 1073741824 + 16 * 32768 ≤ a2) := by
    by_cases h : 1073741824 ≤ a2 ∧ a2 % 16 = 0 ∧ a2 < 1073741824 + 16 * 32768
    · exact .inl h
    · exact .inr (bl.hid (by omega))
  rcases vv with ⟨h1, h2, h3, h4⟩ | hv
  · rcases ss with ⟨g1, g2, g3⟩ | hs
    · go_enter Try.func4, Try.ntmps4
      go_wp2_with fail
      refine (adr_ok a0 a1 _ h1 h2 h3 h4).mono ?_
      rintro e w' ⟨rfl, rfl⟩
      go_wp2_with fail
      refine (radr_ok a0 a1 _ h1 h2 h3 h4).mono ?_
      rintro e w' ⟨rfl, rfl⟩
      go_wp2_with fail
      refine (what_ok a2 _ y0 g1 g2 g3).mono ?_
      rintro e wA ⟨rfl, hgA⟩
      go_wp2_with fail
      refine (rwhat_ok a2 _ y0 g1 g2 g3).mono ?_
      rintro e w' ⟨rfl, rfl⟩
      go_wp2_with fail
      refine (upper_ok a2 _ y0 g1 g2 g3).mono ?_
      rintro e wB ⟨rfl, hgB⟩
      go_wp2_with fail
      refine (rupper_ok a2 _ y0 g1 g2 g3).mono ?_
      rintro e w' ⟨rfl, rfl⟩
      go_wp2_with fail
      refine (upper_ok _ _ (by omega) (by omega) (by omega) (by omega)).mono ?_
      rintro e wC ⟨rfl, hgC⟩
      go_wp2_with fail
      refine (rupper_ok _ _ (by omega) (by omega) (by omega) (by omega)).mono ?_
      rintro e w' ⟨rfl, rfl⟩
      go_wp2_with fail
      refine (awake_true _).mono ?_
      rintro e wD ⟨rfl, hgD⟩
      go_wp2
      go_ret
      exact ⟨rfl, hgA.trans ((hgB.trans ((hgC.trans (hgD.mono hgC.size)).mono hgB.size)).mono hgA.size)⟩
    · go_enter Try.func4, Try.ntmps4
      go_wp2_with fail
      refine (adr_ok a0 a1 _ h1 h2 h3 h4).mono ?_
      rintro e w' ⟨rfl, rfl⟩
      go_wp2_with fail
      refine (radr_ok a0 a1 _ h1 h2 h3 h4).mono ?_
      rintro e w' ⟨rfl, rfl⟩
      go_wp2_with fail
      refine (what_no a2 _ y0 y1 hs.out).mono ?_
      rintro e wA ⟨rfl, hgA⟩
      go_wp2_with fail
      refine (rwhat_no a2 _ y0 y1 hs.out).mono ?_
      rintro e w' ⟨rfl, rfl⟩
      go_wp2_with fail
      refine (upper_no a2 _ y0 y1 hs.out).mono ?_
      rintro e wB ⟨rfl, hgB⟩
      go_wp2_with fail
      refine (rupper_no a2 _ y0 y1 hs.out).mono ?_
      rintro e w' ⟨rfl, rfl⟩
      go_wp2_with fail
      refine (upper_ok _ _ (by omega) (by omega) (by omega) (by omega)).mono ?_
      rintro e wC ⟨rfl, hgC⟩
      go_wp2_with fail
      refine (rupper_ok _ _ (by omega) (by omega) (by omega) (by omega)).mono ?_
      rintro e w' ⟨rfl, rfl⟩
      go_wp2_with fail
      refine (awake_true _).mono ?_
      rintro e wD ⟨rfl, hgD⟩
      go_wp2
      go_ret
      exact ⟨rfl, hgA.trans ((hgB.trans ((hgC.trans (hgD.mono hgC.size)).mono hgB.size)).mono hgA.size)⟩
  · rcases ss with ⟨g1, g2, g3⟩ | hs
    · go_enter Try.func4, Try.ntmps4
      go_wp2_with fail
      refine (adr_no a0 a1 _ hv.out).mono ?_
      rintro e w' ⟨rfl, rfl⟩
      go_wp2_with fail
      refine (radr_no a0 a1 _ hv.out).mono ?_
      rintro e w' ⟨rfl, rfl⟩
      go_wp2_with fail
      refine (what_ok a2 _ y0 g1 g2 g3).mono ?_
      rintro e wA ⟨rfl, hgA⟩
      go_wp2_with fail
      refine (rwhat_ok a2 _ y0 g1 g2 g3).mono ?_
      rintro e w' ⟨rfl, rfl⟩
      go_wp2_with fail
      refine (upper_ok a2 _ y0 g1 g2 g3).mono ?_
      rintro e wB ⟨rfl, hgB⟩
      go_wp2_with fail
      refine (rupper_ok a2 _ y0 g1 g2 g3).mono ?_
      rintro e w' ⟨rfl, rfl⟩
      go_wp2_with fail
      refine (upper_no 0 _ (by omega) (by omega) (by omega)).mono ?_
      rintro e wC ⟨rfl, hgC⟩
      go_wp2_with fail
      refine (rupper_no 0 _ (by omega) (by omega) (by omega)).mono ?_
      rintro e w' ⟨rfl, rfl⟩
      go_wp2_with fail
      refine (awake_true _).mono ?_
      rintro e wD ⟨rfl, hgD⟩
      go_wp2
      go_ret
      exact ⟨rfl, hgA.trans ((hgB.trans ((hgC.trans (hgD.mono hgC.size)).mono hgB.size)).mono hgA.size)⟩
    · go_enter Try.func4, Try.ntmps4
      go_wp2_with fail
      refine (adr_no a0 a1 _ hv.out).mono ?_
      rintro e w' ⟨rfl, rfl⟩
      go_wp2_with fail
      refine (radr_no a0 a1 _ hv.out).mono ?_
      rintro e w' ⟨rfl, rfl⟩
      go_wp2_with fail
      refine (what_no a2 _ y0 y1 hs.out).mono ?_
      rintro e wA ⟨rfl, hgA⟩
      go_wp2_with fail
      refine (rwhat_no a2 _ y0 y1 hs.out).mono ?_
      rintro e w' ⟨rfl, rfl⟩
      go_wp2_with fail
      refine (upper_no a2 _ y0 y1 hs.out).mono ?_
      rintro e wB ⟨rfl, hgB⟩
      go_wp2_with fail
      refine (rupper_no a2 _ y0 y1 hs.out).mono ?_
      rintro e w' ⟨rfl, rfl⟩
      go_wp2_with fail
      refine (upper_no 0 _ (by omega) (by omega) (by omega)).mono ?_
      rintro e wC ⟨rfl, hgC⟩
      go_wp2_with fail
      refine (rupper_no 0 _ (by omega) (by omega) (by omega)).mono ?_
      rintro e w' ⟨rfl, rfl⟩
      go_wp2_with fail
      refine (awake_true _).mono ?_
      rintro e wD ⟨rfl, hgD⟩
      go_wp2
      go_ret
      exact ⟨rfl, hgA.trans ((hgB.trans ((hgC.trans (hgD.mono hgC.size)).mono hgB.size)).mono hgA.size)⟩

theorem known_walk (w : World) :
    Calls Try.prog 5 #[] w fun e w' => e = .returned (.bool true) ∧ Below w.heap.size w w' := by
  go_enter Try.func5, Try.ntmps5
  go_wp2_with fail
  refine (adr_no 8 0 _ (by omega)).mono ?_
  rintro e w' ⟨rfl, rfl⟩
  go_wp2_with fail
  refine (adr_no 0 4096 _ (by omega)).mono ?_
  rintro e w' ⟨rfl, rfl⟩
  go_wp2_with fail
  refine (upper_at 1073742224 262144 400 _ (by omega) (by omega) (by omega) (by decide) (by decide)).mono ?_
  rintro e wA ⟨rfl, hgA⟩
  go_wp2_with fail
  refine (upper_at 1073743872 262145 (-2048) _ (by omega) (by omega) (by omega) (by decide) (by decide)).mono ?_
  rintro e wB ⟨rfl, hgB⟩
  go_wp2_with fail
  refine (upper_no 16 _ (by omega) (by omega) (by omega)).mono ?_
  rintro e wC ⟨rfl, hgC⟩
  go_wp2_with fail
  refine (awake_true _).mono ?_
  rintro e wD ⟨rfl, hgD⟩
  go_wp2_with fail
  refine (says_no 1073742225 _ (by omega) (by omega) (by omega)).mono ?_
  rintro e wE ⟨rfl, hgE⟩
  go_wp2_with fail
  refine (says_no 4294967296 _ (by omega) (by omega) (by omega)).mono ?_
  rintro e wF ⟨rfl, hgF⟩
  go_wp2
  go_ret
  exact ⟨rfl, hgA.trans ((hgB.trans ((hgC.trans ((hgD.trans ((hgE.trans (hgF.mono hgE.size)).mono hgD.size)).mono hgC.size)).mono hgB.size)).mono hgA.size)⟩

set_option maxHeartbeats 4000000 in
theorem back_walk (a0 a1 a2 a3 a4 : Int) (w0 : (Lit.int .i64 a0).wf = true) (w1 : (Lit.int .i64 a1).wf = true) (w2 : (Lit.int .i64 a2).wf = true) (w3 : (Lit.int .i64 a3).wf = true) (w4 : (Lit.int .u64 a4).wf = true) (w : World) :
    Calls Try.prog 6 #[.int .i64 a0, .int .i64 a1, .int .i64 a2, .int .i64 a3, .int .u64 a4] w fun e w' => e = .returned (.bool true) ∧ Below w.heap.size w w' := by
  have x0 := bl.wf_i64 w0
  have x1 := bl.wf_i64 w1
  have x2 := bl.wf_i64 w2
  have x3 := bl.wf_i64 w3
  have y0 := (bl.wf_u64 w4).1
  have y1 := (bl.wf_u64 w4).2
  clear w0 w1 w2 w3 w4
  go_enter Try.func6, Try.ntmps6
  go_wp2_with fail
  refine (known_walk _).mono ?_
  rintro e wa ⟨rfl, hga⟩
  go_wp2_with fail
  refine (pick_any a0 8 _ (by omega) (by omega) (by omega) (by omega)).mono ?_
  rintro e w' ⟨k, hk1, hk2, rfl, rfl⟩
  go_wp2_with fail
  refine (pick_any a1 4096 _ (by omega) (by omega) (by omega) (by omega)).mono ?_
  rintro e w' ⟨p, hp1, hp2, rfl, rfl⟩
  go_wp2_with fail
  refine (pick_any a2 8 _ (by omega) (by omega) (by omega) (by omega)).mono ?_
  rintro e w' ⟨k', hk3, hk4, rfl, rfl⟩
  go_wp2_with fail
  refine (pick_any a3 4096 _ (by omega) (by omega) (by omega) (by omega)).mono ?_
  rintro e w' ⟨p', hp3, hp4, rfl, rfl⟩
  clear x0 x1 x2 x3
  go_wp2_with fail
  refine (adr_ok k p _ hk1 hk2 hp1 hp2).mono ?_
  rintro e w' ⟨rfl, rfl⟩
  go_wp2_with fail
  refine (adr_ok k' p' _ hk3 hk4 hp3 hp4).mono ?_
  rintro e w' ⟨rfl, rfl⟩
  have ss : (1073741824 ≤ a4 ∧ a4 % 16 = 0 ∧ a4 < 1073741824 + 16 * 32768) ∨ Hid (a4 < 1073741824 ∨ a4 % 16 ≠ 0 ∨ 1073741824 + 16 * 32768 ≤ a4) := by
    by_cases h : 1073741824 ≤ a4 ∧ a4 % 16 = 0 ∧ a4 < 1073741824 + 16 * 32768
    · exact .inl h
    · exact .inr (bl.hid (by omega))
  by_cases e1 : k = k'
  · subst e1
    by_cases e2 : p = p'
    · subst e2
      rcases ss with ⟨g1, g2, g3⟩ | hs
      · go_wp2_with fail
        refine (says_yes _ k p _ hk1 hk2 hp1 hp2 rfl).mono ?_
        rintro e wb ⟨rfl, hgb⟩
        go_wp2_with fail
        refine (upper_var _ _ (by omega) (by omega) (by omega) (by omega)).mono ?_
        rintro e wc ⟨hi, lo, hu1, hu2, hu3, rfl, hgc⟩
        have hq3 : 1073741824 + 16 * (8 * ((a4 - 1073741824) / 128) + (a4 - 1073741824) / 16 % 8) = a4 := by omega
        go_wp2_with fail
        refine (what_ok a4 _ y0 g1 g2 g3).mono ?_
        rintro e wd ⟨rfl, hgd⟩
        go_wp2_with fail
        refine (adr_ok _ _ _ (by omega) (by omega) (by omega) (by omega)).mono ?_
        rintro e w' ⟨rfl, rfl⟩
        go_wp2
        go_ret
        exact ⟨rfl, hga.trans ((hgb.trans ((hgc.trans (hgd.mono hgc.size)).mono hgb.size)).mono hga.size)⟩
      · go_wp2_with fail
        refine (says_yes _ k p _ hk1 hk2 hp1 hp2 rfl).mono ?_
        rintro e wb ⟨rfl, hgb⟩
        go_wp2_with fail
        refine (upper_var _ _ (by omega) (by omega) (by omega) (by omega)).mono ?_
        rintro e wc ⟨hi, lo, hu1, hu2, hu3, rfl, hgc⟩
        go_wp2_with fail
        refine (what_no a4 _ y0 y1 hs.out).mono ?_
        rintro e wd ⟨rfl, hgd⟩
        go_wp2
        go_ret
        exact ⟨rfl, hga.trans ((hgb.trans ((hgc.trans (hgd.mono hgc.size)).mono hgb.size)).mono hga.size)⟩
    · have q1 : (1073741824 + 16 * (8 * p + k) == 1073741824 + 16 * (8 * p' + k)) = false := by simp; omega
      have q2 : (p == p') = false := by simp; omega
      clear e2
      rcases ss with ⟨g1, g2, g3⟩ | hs
      · go_wp2_with fail
        refine (says_yes _ k p _ hk1 hk2 hp1 hp2 rfl).mono ?_
        rintro e wb ⟨rfl, hgb⟩
        go_wp2_with fail
        refine (upper_var _ _ (by omega) (by omega) (by omega) (by omega)).mono ?_
        rintro e wc ⟨hi, lo, hu1, hu2, hu3, rfl, hgc⟩
        have hq3 : 1073741824 + 16 * (8 * ((a4 - 1073741824) / 128) + (a4 - 1073741824) / 16 % 8) = a4 := by omega
        go_wp2_with fail
        refine (what_ok a4 _ y0 g1 g2 g3).mono ?_
        rintro e wd ⟨rfl, hgd⟩
        go_wp2_with fail
        refine (adr_ok _ _ _ (by omega) (by omega) (by omega) (by omega)).mono ?_
        rintro e w' ⟨rfl, rfl⟩
        go_wp2
        go_ret
        exact ⟨rfl, hga.trans ((hgb.trans ((hgc.trans (hgd.mono hgc.size)).mono hgb.size)).mono hga.size)⟩
      · go_wp2_with fail
        refine (says_yes _ k p _ hk1 hk2 hp1 hp2 rfl).mono ?_
        rintro e wb ⟨rfl, hgb⟩
        go_wp2_with fail
        refine (upper_var _ _ (by omega) (by omega) (by omega) (by omega)).mono ?_
        rintro e wc ⟨hi, lo, hu1, hu2, hu3, rfl, hgc⟩
        go_wp2_with fail
        refine (what_no a4 _ y0 y1 hs.out).mono ?_
        rintro e wd ⟨rfl, hgd⟩
        go_wp2
        go_ret
        exact ⟨rfl, hga.trans ((hgb.trans ((hgc.trans (hgd.mono hgc.size)).mono hgb.size)).mono hga.size)⟩
  · have q1 : (1073741824 + 16 * (8 * p + k) == 1073741824 + 16 * (8 * p' + k')) = false := by simp; omega
    have q2 : (k == k') = false := by simp; omega
    clear e1
    rcases ss with ⟨g1, g2, g3⟩ | hs
    · go_wp2_with fail
      refine (says_yes _ k p _ hk1 hk2 hp1 hp2 rfl).mono ?_
      rintro e wb ⟨rfl, hgb⟩
      go_wp2_with fail
      refine (upper_var _ _ (by omega) (by omega) (by omega) (by omega)).mono ?_
      rintro e wc ⟨hi, lo, hu1, hu2, hu3, rfl, hgc⟩
      have hq3 : 1073741824 + 16 * (8 * ((a4 - 1073741824) / 128) + (a4 - 1073741824) / 16 % 8) = a4 := by omega
      go_wp2_with fail
      refine (what_ok a4 _ y0 g1 g2 g3).mono ?_
      rintro e wd ⟨rfl, hgd⟩
      go_wp2_with fail
      refine (adr_ok _ _ _ (by omega) (by omega) (by omega) (by omega)).mono ?_
      rintro e w' ⟨rfl, rfl⟩
      go_wp2
      go_ret
      exact ⟨rfl, hga.trans ((hgb.trans ((hgc.trans (hgd.mono hgc.size)).mono hgb.size)).mono hga.size)⟩
    · go_wp2_with fail
      refine (says_yes _ k p _ hk1 hk2 hp1 hp2 rfl).mono ?_
      rintro e wb ⟨rfl, hgb⟩
      go_wp2_with fail
      refine (upper_var _ _ (by omega) (by omega) (by omega) (by omega)).mono ?_
      rintro e wc ⟨hi, lo, hu1, hu2, hu3, rfl, hgc⟩
      go_wp2_with fail
      refine (what_no a4 _ y0 y1 hs.out).mono ?_
      rintro e wd ⟨rfl, hgd⟩
      go_wp2
      go_ret
      exact ⟨rfl, hga.trans ((hgb.trans ((hgc.trans (hgd.mono hgc.size)).mono hgb.size)).mono hga.size)⟩
end Go.Proofs.Ytlajigmejbhfdaa
