/- The four statements of the stub layer, walked: each returns true. -/
import Derived.Test.YtlajigmejbhfdaaWalks2
namespace Go.Proofs.Ytlajigmejbhfdaa
open Go.RowKit
set_option linter.unusedVariables false

theorem rise_walk (a0 a1 a2 a3 : Int) (w0 : (Lit.int .i64 a0).wf = true) (w1 : (Lit.int .i64 a1).wf = true) (w2 : (Lit.int .i64 a2).wf = true) (w3 : (Lit.int .i64 a3).wf = true) (w : World) :
    Calls Try.prog 3 #[.int .i64 a0, .int .i64 a1, .int .i64 a2, .int .i64 a3] w fun e w' => e = .returned (.bool true) ∧ Below w.heap.size w w' := by
  have x0 := bl.wf_i64 w0
  have x1 := bl.wf_i64 w1
  have x2 := bl.wf_i64 w2
  have x3 := bl.wf_i64 w3
  clear w0 w1 w2 w3
  go_enter Try.func3, Try.ntmps3
  go_wp2_with fail
  refine (awake_true _).mono ?_
  rintro e wa ⟨rfl, hga⟩
  go_wp2_with fail
  refine (pick_any a0 8 _ (by omega) (by omega) (by omega) (by omega)).mono ?_
  rintro e w' ⟨k, hk1, hk2, rfl, rfl⟩
  go_wp2_with fail
  refine (pick_any a1 4096 _ (by omega) (by omega) (by omega) (by omega)).mono ?_
  rintro e w' ⟨p, hp1, hp2, rfl, rfl⟩
  go_wp2_with fail
  refine (pick_any a2 8 _ (by omega) (by omega) (by omega) (by omega)).mono ?_
  rintro e w' ⟨k', hk3, hk4, rfl, rfl⟩
  go_wp2_with fail
  refine (pick_any a3 4096 _ (by omega) (by omega) (by omega) (by omega)).mono ?_
  rintro e w' ⟨p', hp3, hp4, rfl, rfl⟩
  clear x0 x1 x2 x3
  go_wp2_with fail
  refine (adr_ok k p _ (by omega) (by omega) (by omega) (by omega)).mono ?_
  rintro e w' ⟨rfl, rfl⟩
  go_wp2_with fail
  refine (adr_ok k' p' _ (by omega) (by omega) (by omega) (by omega)).mono ?_
  rintro e w' ⟨rfl, rfl⟩
  rcases Int.lt_trichotomy p p' with h | h | h
  · have h2 : 8 * p + k < 8 * p' + k' := by omega
    go_wp2_with fail
    refine (says_no _ _ (by omega) (by omega) (by omega)).mono ?_
    rintro e w1 ⟨rfl, hg1⟩
    go_wp2_with fail
    refine (says_no _ _ (by omega) (by omega) (by omega)).mono ?_
    rintro e w2 ⟨rfl, hg2⟩
    go_wp2
    go_ret
    exact ⟨rfl, hga.trans ((hg1.trans (hg2.mono hg1.size)).mono hga.size)⟩
  · subst h
    have hz : IntKind.u64.wrap (1073741824 + 16 * (8 * p + k) + IntKind.u64.wrap (16 * (k' - k))) = 1073741824 + 16 * (8 * p + k') := by
      rw [IntKind.wrap_u64, IntKind.wrap_u64]; omega
    rcases Int.lt_trichotomy k k' with h | h | h
    · have h2 : 8 * p + k < 8 * p + k' := by omega
      go_wp2_with fail
      refine (says_no _ _ (by omega) (by omega) (by omega)).mono ?_
      rintro e w1 ⟨rfl, hg1⟩
      go_wp2_with fail
      refine (says_no _ _ (by omega) (by omega) (by omega)).mono ?_
      rintro e w2 ⟨rfl, hg2⟩
      go_wp2
      go_ret
      exact ⟨rfl, hga.trans ((hg1.trans (hg2.mono hg1.size)).mono hga.size)⟩
    · subst h
      go_wp2_with fail
      refine (says_no _ _ (by omega) (by omega) (by omega)).mono ?_
      rintro e w1 ⟨rfl, hg1⟩
      go_wp2_with fail
      refine (says_no _ _ (by omega) (by omega) (by omega)).mono ?_
      rintro e w2 ⟨rfl, hg2⟩
      go_wp2
      go_ret
      exact ⟨rfl, hga.trans ((hg1.trans (hg2.mono hg1.size)).mono hga.size)⟩
    · have h2 : ¬ 8 * p + k < 8 * p + k' := by omega
      go_wp2_with fail
      refine (says_no _ _ (by omega) (by omega) (by omega)).mono ?_
      rintro e w1 ⟨rfl, hg1⟩
      go_wp2_with fail
      refine (says_no _ _ (by omega) (by omega) (by omega)).mono ?_
      rintro e w2 ⟨rfl, hg2⟩
      go_wp2
      go_ret
      exact ⟨rfl, hga.trans ((hg1.trans (hg2.mono hg1.size)).mono hga.size)⟩
  · have h2 : decide (8 * p + k < 8 * p' + k') = false := by simp; omega
    have h3 : decide (p < p') = false := by simp; omega
    have h4 : (p == p') = false := by simp; omega
    go_wp2_with fail
    refine (says_no _ _ (by omega) (by omega) (by omega)).mono ?_
    rintro e w1 ⟨rfl, hg1⟩
    go_wp2_with fail
    refine (says_no _ _ (by omega) (by omega) (by omega)).mono ?_
    rintro e w2 ⟨rfl, hg2⟩
    go_wp2
    go_ret
    exact ⟨rfl, hga.trans ((hg1.trans (hg2.mono hg1.size)).mono hga.size)⟩
end Go.Proofs.Ytlajigmejbhfdaa
