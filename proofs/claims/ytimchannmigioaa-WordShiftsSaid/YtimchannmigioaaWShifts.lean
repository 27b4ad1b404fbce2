/- WordShifts, walked: it returns true. -/
import Derived.Test.YtimchannmigioaaWLaws
namespace Go.Proofs.Ytimchannmigioaa
open Go.RowKit
set_option linter.unusedVariables false

theorem shl_bd (x k : Int) : 0 ≤ wd.shl x k ∧ wd.shl x k < 18446744073709551616 := em_bd _
theorem sar_bd (x k : Int) : 0 ≤ wd.sar x k ∧ wd.sar x k < 18446744073709551616 := em_bd _
set_option maxRecDepth 100000 in
set_option maxHeartbeats 3200000 in
theorem shifts_walk (a0 a1 : Int) (w0 : (Lit.int .u64 a0).wf = true) (w1 : (Lit.int .u64 a1).wf = true) (w : World) :
    Calls Try.prog 4 #[.int .u64 a0, .int .u64 a1] w fun e w' => e = .returned (.bool true) ∧ Below w.heap.size w w' := by
  obtain ⟨p0, q0⟩ := bl.wf_u64 w0
  obtain ⟨p1, q1⟩ := bl.wf_u64 w1
  clear w0 w1
  have m0 : 0 ≤ a1 % 64 := by omega
  have m1 : a1 % 64 < 64 := by omega
  go_enter Try.func4, Try.ntmps4
  go_wp2_with fail
  refine (awake_true _).mono ?_
  rintro e v1 ⟨rfl, g1⟩
  go_wp2_with fail
  go_loop [7, 8, 9, 10] (fun u d s i => ∃ k : Nat, (k : Int) ≤ a1 % 64 ∧ u = .int .u64 (wd.shl a0 k) ∧ d = .int .u64 (wd.shr a0 k) ∧ s = .int .u64 (wd.sar a0 k) ∧ i = .int .u64 k) (fun _ _ _ i => (64 - intOf i).toNat)
  case atStart => exact ⟨0, m0, bl.int_eq (shl_zero a0 p0 q0).symm, bl.int_eq (shr_zero a0).symm, bl.int_eq (sar_zero a0 p0 q0).symm, rfl⟩
  case round =>
    obtain ⟨k, hk, rfl, rfl, rfl, rfl⟩ := hrel
    have u0 := (shl_bd a0 k).1
    have u1 := (shl_bd a0 k).2
    have d0 := (shr_bd a0 k p0 q0).1
    have d1 := (shr_bd a0 k p0 q0).2
    have s0 := (sar_bd a0 k).1
    have s1 := (sar_bd a0 k).2
    by_cases hlt : (k : Int) < a1 % 64
    · have nU := bl.hid (shl_succ a0 k)
      have nD := bl.hid (shr_succ a0 k)
      have nS := bl.hid (sar_succ a0 k)
      go_wp2
      go_round
      case rel => exact ⟨k + 1, by omega, bl.int_eq (by rw [Int.natCast_add, Int.natCast_one, nU.out]; (try rw [IntKind.wrap_u64]); omega), bl.int_eq (by rw [Int.natCast_add, Int.natCast_one, nD.out]), bl.int_eq (by rw [Int.natCast_add, Int.natCast_one, nS.out]; (try rw [IntKind.wrap_u64]); omega), bl.int_eq (by omega)⟩
      case measure => simp [intOf]; omega
    · have HK : Hid ((k : Int) = a1 % 64) := bl.hid (by omega)
      have HM : Hid (a1 % 64 % 64 = a1 % 64) := bl.hid (by omega)
      have cx := wd.wrap64_cases a0 p0 q0
      have cy := wd.wrap64_cases a1 p1 q1
      have H14 : Hid (wd.doV 14 a0 a1 = wd.shl a0 k) := bl.hid (show wd.shl a0 (a1 % 64) = _ by rw [HK.out])
      have H15 : Hid (wd.doV 15 a0 a1 = wd.shr a0 k) := bl.hid (show wd.shr a0 (a1 % 64) = _ by rw [HK.out])
      have H16 : Hid (wd.doV 16 a0 a1 = wd.sar a0 k) := bl.hid (show wd.sar a0 (a1 % 64) = _ by rw [HK.out])
      have H14' : Hid (wd.doV 14 a0 (a1 % 64) = wd.shl a0 k) := bl.hid (show wd.shl a0 (a1 % 64 % 64) = _ by rw [HM.out, HK.out])
      rcases Int.lt_trichotomy a0 a1 with hc | hc | hc
      · by_cases hs : (9223372036854775808 ≤ a0 ↔ 9223372036854775808 ≤ a1)
        · have HA : Hid (wd.doV 17 a0 a1 = 1) := bl.hid (show wd.bit _ = _ by rw [show decide (wrap64 a0 < wrap64 a1) = true from decide_eq_true (by omega)]; rfl)
          have HB : Hid (wd.doV 17 a1 a0 = 0) := bl.hid (show wd.bit _ = _ by rw [show decide (wrap64 a1 < wrap64 a0) = false from decide_eq_false (by omega)]; rfl)
          have HC : Hid (wd.doV 19 a0 a1 = 0) := bl.hid (show wd.bit _ = _ by rw [show (a0 == a1) = false by simp <;> omega]; rfl)
          have HD : Hid (wd.doV 18 a0 a1 = 1) := bl.hid (show wd.bit _ = _ by rw [show decide (a0 < a1) = true from decide_eq_true (by omega)]; rfl)
          have HE : Hid (wd.doV 18 a1 a0 = 0) := bl.hid (show wd.bit _ = _ by rw [show decide (a1 < a0) = false from decide_eq_false (by omega)]; rfl)
          have HF : Hid (wd.doV 20 a0 a1 = 1) := bl.hid (show wd.bit _ = _ by rw [show (a0 != a1) = true by simp <;> omega]; rfl)
          clear cx cy
          have b1 : (decide (9223372036854775808 ≤ a0) == decide (9223372036854775808 ≤ a1)) = true := by simp [hs]
          clear hs
          go_wp2_with fail
          refine (told_at 14 a0 a1 (wd.shl a0 k) _ (by omega) (by omega) (by omega) (by omega) (by omega) (by omega) (H14.out)).mono ?_
          rintro e v11 ⟨rfl, g11⟩
          replace g11 := g1.trans (g11.mono g1.size)
          go_wp2_with fail
          refine (told_at 15 a0 a1 (wd.shr a0 k) _ (by omega) (by omega) (by omega) (by omega) (by omega) (by omega) (H15.out)).mono ?_
          rintro e v12 ⟨rfl, g12⟩
          replace g12 := g11.trans (g12.mono g11.size)
          go_wp2_with fail
          refine (told_at 16 a0 a1 (wd.sar a0 k) _ (by omega) (by omega) (by omega) (by omega) (by omega) (by omega) (H16.out)).mono ?_
          rintro e v13 ⟨rfl, g13⟩
          replace g13 := g12.trans (g13.mono g12.size)
          go_wp2_with fail
          refine (told_at 14 a0 (a1 % 64) (wd.shl a0 k) _ (by omega) (by omega) (by omega) (by omega) (by omega) (by omega) (H14'.out)).mono ?_
          rintro e v14 ⟨rfl, g14⟩
          replace g14 := g13.trans (g14.mono g13.size)
          go_wp2_with fail
          refine (told_at 17 a0 a1 (1) _ (by omega) (by omega) (by omega) (by omega) (by omega) (by omega) (HA.out)).mono ?_
          rintro e v15 ⟨rfl, g15⟩
          replace g15 := g14.trans (g15.mono g14.size)
          go_wp2_with fail
          refine (told_at 17 a1 a0 (0) _ (by omega) (by omega) (by omega) (by omega) (by omega) (by omega) (HB.out)).mono ?_
          rintro e v16 ⟨rfl, g16⟩
          replace g16 := g15.trans (g16.mono g15.size)
          go_wp2_with fail
          refine (told_at 19 a0 a1 (0) _ (by omega) (by omega) (by omega) (by omega) (by omega) (by omega) (HC.out)).mono ?_
          rintro e v17 ⟨rfl, g17⟩
          replace g17 := g16.trans (g17.mono g16.size)
          go_wp2_with fail
          refine (told_at 18 a0 a1 (1) _ (by omega) (by omega) (by omega) (by omega) (by omega) (by omega) (HD.out)).mono ?_
          rintro e v18 ⟨rfl, g18⟩
          replace g18 := g17.trans (g18.mono g17.size)
          go_wp2_with fail
          refine (told_at 18 a1 a0 (0) _ (by omega) (by omega) (by omega) (by omega) (by omega) (by omega) (HE.out)).mono ?_
          rintro e v19 ⟨rfl, g19⟩
          replace g19 := g18.trans (g19.mono g18.size)
          go_wp2_with fail
          refine (told_at 20 a0 a1 (1) _ (by omega) (by omega) (by omega) (by omega) (by omega) (by omega) (HF.out)).mono ?_
          rintro e v20 ⟨rfl, g20⟩
          replace g20 := g19.trans (g20.mono g19.size)
          go_wp2
          go_ret
          exact ⟨rfl, g20⟩
        · have HA : Hid (wd.doV 17 a0 a1 = 0) := bl.hid (show wd.bit _ = _ by rw [show decide (wrap64 a0 < wrap64 a1) = false from decide_eq_false (by omega)]; rfl)
          have HB : Hid (wd.doV 17 a1 a0 = 1) := bl.hid (show wd.bit _ = _ by rw [show decide (wrap64 a1 < wrap64 a0) = true from decide_eq_true (by omega)]; rfl)
          have HC : Hid (wd.doV 19 a0 a1 = 0) := bl.hid (show wd.bit _ = _ by rw [show (a0 == a1) = false by simp <;> omega]; rfl)
          have HD : Hid (wd.doV 18 a0 a1 = 1) := bl.hid (show wd.bit _ = _ by rw [show decide (a0 < a1) = true from decide_eq_true (by omega)]; rfl)
          have HE : Hid (wd.doV 18 a1 a0 = 0) := bl.hid (show wd.bit _ = _ by rw [show decide (a1 < a0) = false from decide_eq_false (by omega)]; rfl)
          have HF : Hid (wd.doV 20 a0 a1 = 1) := bl.hid (show wd.bit _ = _ by rw [show (a0 != a1) = true by simp <;> omega]; rfl)
          clear cx cy
          have b1 : (decide (9223372036854775808 ≤ a0) == decide (9223372036854775808 ≤ a1)) = false := by simpa using hs
          have b2 : (a0 == a1) = false := by simp; omega
          clear hs
          go_wp2_with fail
          refine (told_at 14 a0 a1 (wd.shl a0 k) _ (by omega) (by omega) (by omega) (by omega) (by omega) (by omega) (H14.out)).mono ?_
          rintro e v11 ⟨rfl, g11⟩
          replace g11 := g1.trans (g11.mono g1.size)
          go_wp2_with fail
          refine (told_at 15 a0 a1 (wd.shr a0 k) _ (by omega) (by omega) (by omega) (by omega) (by omega) (by omega) (H15.out)).mono ?_
          rintro e v12 ⟨rfl, g12⟩
          replace g12 := g11.trans (g12.mono g11.size)
          go_wp2_with fail
          refine (told_at 16 a0 a1 (wd.sar a0 k) _ (by omega) (by omega) (by omega) (by omega) (by omega) (by omega) (H16.out)).mono ?_
          rintro e v13 ⟨rfl, g13⟩
          replace g13 := g12.trans (g13.mono g12.size)
          go_wp2_with fail
          refine (told_at 14 a0 (a1 % 64) (wd.shl a0 k) _ (by omega) (by omega) (by omega) (by omega) (by omega) (by omega) (H14'.out)).mono ?_
          rintro e v14 ⟨rfl, g14⟩
          replace g14 := g13.trans (g14.mono g13.size)
          go_wp2_with fail
          refine (told_at 17 a0 a1 (0) _ (by omega) (by omega) (by omega) (by omega) (by omega) (by omega) (HA.out)).mono ?_
          rintro e v15 ⟨rfl, g15⟩
          replace g15 := g14.trans (g15.mono g14.size)
          go_wp2_with fail
          refine (told_at 17 a1 a0 (1) _ (by omega) (by omega) (by omega) (by omega) (by omega) (by omega) (HB.out)).mono ?_
          rintro e v16 ⟨rfl, g16⟩
          replace g16 := g15.trans (g16.mono g15.size)
          go_wp2_with fail
          refine (told_at 19 a0 a1 (0) _ (by omega) (by omega) (by omega) (by omega) (by omega) (by omega) (HC.out)).mono ?_
          rintro e v17 ⟨rfl, g17⟩
          replace g17 := g16.trans (g17.mono g16.size)
          go_wp2_with fail
          refine (told_at 18 a0 a1 (1) _ (by omega) (by omega) (by omega) (by omega) (by omega) (by omega) (HD.out)).mono ?_
          rintro e v18 ⟨rfl, g18⟩
          replace g18 := g17.trans (g18.mono g17.size)
          go_wp2_with fail
          refine (told_at 18 a1 a0 (0) _ (by omega) (by omega) (by omega) (by omega) (by omega) (by omega) (HE.out)).mono ?_
          rintro e v19 ⟨rfl, g19⟩
          replace g19 := g18.trans (g19.mono g18.size)
          go_wp2_with fail
          refine (told_at 20 a0 a1 (1) _ (by omega) (by omega) (by omega) (by omega) (by omega) (by omega) (HF.out)).mono ?_
          rintro e v20 ⟨rfl, g20⟩
          replace g20 := g19.trans (g20.mono g19.size)
          go_wp2
          go_ret
          exact ⟨rfl, g20⟩
      · subst hc
        have HA : Hid (wd.doV 17 a0 a0 = 0) := bl.hid (show wd.bit _ = _ by rw [show decide (wrap64 a0 < wrap64 a0) = false from decide_eq_false (by omega)]; rfl)
        have HB : Hid (wd.doV 17 a0 a0 = 0) := bl.hid (show wd.bit _ = _ by rw [show decide (wrap64 a0 < wrap64 a0) = false from decide_eq_false (by omega)]; rfl)
        have HC : Hid (wd.doV 19 a0 a0 = 1) := bl.hid (show wd.bit _ = _ by rw [show (a0 == a0) = true by simp <;> omega]; rfl)
        have HD : Hid (wd.doV 18 a0 a0 = 0) := bl.hid (show wd.bit _ = _ by rw [show decide (a0 < a0) = false from decide_eq_false (by omega)]; rfl)
        have HE : Hid (wd.doV 18 a0 a0 = 0) := bl.hid (show wd.bit _ = _ by rw [show decide (a0 < a0) = false from decide_eq_false (by omega)]; rfl)
        have HF : Hid (wd.doV 20 a0 a0 = 0) := bl.hid (show wd.bit _ = _ by rw [show (a0 != a0) = false by simp <;> omega]; rfl)
        clear cx cy
        go_wp2_with fail
        refine (told_at 14 a0 a0 (wd.shl a0 k) _ (by omega) (by omega) (by omega) (by omega) (by omega) (by omega) (H14.out)).mono ?_
        rintro e v11 ⟨rfl, g11⟩
        replace g11 := g1.trans (g11.mono g1.size)
        go_wp2_with fail
        refine (told_at 15 a0 a0 (wd.shr a0 k) _ (by omega) (by omega) (by omega) (by omega) (by omega) (by omega) (H15.out)).mono ?_
        rintro e v12 ⟨rfl, g12⟩
        replace g12 := g11.trans (g12.mono g11.size)
        go_wp2_with fail
        refine (told_at 16 a0 a0 (wd.sar a0 k) _ (by omega) (by omega) (by omega) (by omega) (by omega) (by omega) (H16.out)).mono ?_
        rintro e v13 ⟨rfl, g13⟩
        replace g13 := g12.trans (g13.mono g12.size)
        go_wp2_with fail
        refine (told_at 14 a0 (a0 % 64) (wd.shl a0 k) _ (by omega) (by omega) (by omega) (by omega) (by omega) (by omega) (H14'.out)).mono ?_
        rintro e v14 ⟨rfl, g14⟩
        replace g14 := g13.trans (g14.mono g13.size)
        go_wp2_with fail
        refine (told_at 17 a0 a0 (0) _ (by omega) (by omega) (by omega) (by omega) (by omega) (by omega) (HA.out)).mono ?_
        rintro e v15 ⟨rfl, g15⟩
        replace g15 := g14.trans (g15.mono g14.size)
        go_wp2_with fail
        refine (told_at 17 a0 a0 (0) _ (by omega) (by omega) (by omega) (by omega) (by omega) (by omega) (HB.out)).mono ?_
        rintro e v16 ⟨rfl, g16⟩
        replace g16 := g15.trans (g16.mono g15.size)
        go_wp2_with fail
        refine (told_at 19 a0 a0 (1) _ (by omega) (by omega) (by omega) (by omega) (by omega) (by omega) (HC.out)).mono ?_
        rintro e v17 ⟨rfl, g17⟩
        replace g17 := g16.trans (g17.mono g16.size)
        go_wp2_with fail
        refine (told_at 18 a0 a0 (0) _ (by omega) (by omega) (by omega) (by omega) (by omega) (by omega) (HD.out)).mono ?_
        rintro e v18 ⟨rfl, g18⟩
        replace g18 := g17.trans (g18.mono g17.size)
        go_wp2_with fail
        refine (told_at 18 a0 a0 (0) _ (by omega) (by omega) (by omega) (by omega) (by omega) (by omega) (HE.out)).mono ?_
        rintro e v19 ⟨rfl, g19⟩
        replace g19 := g18.trans (g19.mono g18.size)
        go_wp2_with fail
        refine (told_at 20 a0 a0 (0) _ (by omega) (by omega) (by omega) (by omega) (by omega) (by omega) (HF.out)).mono ?_
        rintro e v20 ⟨rfl, g20⟩
        replace g20 := g19.trans (g20.mono g19.size)
        go_wp2
        go_ret
        exact ⟨rfl, g20⟩
      · by_cases hs : (9223372036854775808 ≤ a0 ↔ 9223372036854775808 ≤ a1)
        · have HA : Hid (wd.doV 17 a0 a1 = 0) := bl.hid (show wd.bit _ = _ by rw [show decide (wrap64 a0 < wrap64 a1) = false from decide_eq_false (by omega)]; rfl)
          have HB : Hid (wd.doV 17 a1 a0 = 1) := bl.hid (show wd.bit _ = _ by rw [show decide (wrap64 a1 < wrap64 a0) = true from decide_eq_true (by omega)]; rfl)
          have HC : Hid (wd.doV 19 a0 a1 = 0) := bl.hid (show wd.bit _ = _ by rw [show (a0 == a1) = false by simp <;> omega]; rfl)
          have HD : Hid (wd.doV 18 a0 a1 = 0) := bl.hid (show wd.bit _ = _ by rw [show decide (a0 < a1) = false from decide_eq_false (by omega)]; rfl)
          have HE : Hid (wd.doV 18 a1 a0 = 1) := bl.hid (show wd.bit _ = _ by rw [show decide (a1 < a0) = true from decide_eq_true (by omega)]; rfl)
          have HF : Hid (wd.doV 20 a0 a1 = 1) := bl.hid (show wd.bit _ = _ by rw [show (a0 != a1) = true by simp <;> omega]; rfl)
          clear cx cy
          have b1 : (decide (9223372036854775808 ≤ a0) == decide (9223372036854775808 ≤ a1)) = true := by simp [hs]
          clear hs
          go_wp2_with fail
          refine (told_at 14 a0 a1 (wd.shl a0 k) _ (by omega) (by omega) (by omega) (by omega) (by omega) (by omega) (H14.out)).mono ?_
          rintro e v11 ⟨rfl, g11⟩
          replace g11 := g1.trans (g11.mono g1.size)
          go_wp2_with fail
          refine (told_at 15 a0 a1 (wd.shr a0 k) _ (by omega) (by omega) (by omega) (by omega) (by omega) (by omega) (H15.out)).mono ?_
          rintro e v12 ⟨rfl, g12⟩
          replace g12 := g11.trans (g12.mono g11.size)
          go_wp2_with fail
          refine (told_at 16 a0 a1 (wd.sar a0 k) _ (by omega) (by omega) (by omega) (by omega) (by omega) (by omega) (H16.out)).mono ?_
          rintro e v13 ⟨rfl, g13⟩
          replace g13 := g12.trans (g13.mono g12.size)
          go_wp2_with fail
          refine (told_at 14 a0 (a1 % 64) (wd.shl a0 k) _ (by omega) (by omega) (by omega) (by omega) (by omega) (by omega) (H14'.out)).mono ?_
          rintro e v14 ⟨rfl, g14⟩
          replace g14 := g13.trans (g14.mono g13.size)
          go_wp2_with fail
          refine (told_at 17 a0 a1 (0) _ (by omega) (by omega) (by omega) (by omega) (by omega) (by omega) (HA.out)).mono ?_
          rintro e v15 ⟨rfl, g15⟩
          replace g15 := g14.trans (g15.mono g14.size)
          go_wp2_with fail
          refine (told_at 17 a1 a0 (1) _ (by omega) (by omega) (by omega) (by omega) (by omega) (by omega) (HB.out)).mono ?_
          rintro e v16 ⟨rfl, g16⟩
          replace g16 := g15.trans (g16.mono g15.size)
          go_wp2_with fail
          refine (told_at 19 a0 a1 (0) _ (by omega) (by omega) (by omega) (by omega) (by omega) (by omega) (HC.out)).mono ?_
          rintro e v17 ⟨rfl, g17⟩
          replace g17 := g16.trans (g17.mono g16.size)
          go_wp2_with fail
          refine (told_at 18 a0 a1 (0) _ (by omega) (by omega) (by omega) (by omega) (by omega) (by omega) (HD.out)).mono ?_
          rintro e v18 ⟨rfl, g18⟩
          replace g18 := g17.trans (g18.mono g17.size)
          go_wp2_with fail
          refine (told_at 18 a1 a0 (1) _ (by omega) (by omega) (by omega) (by omega) (by omega) (by omega) (HE.out)).mono ?_
          rintro e v19 ⟨rfl, g19⟩
          replace g19 := g18.trans (g19.mono g18.size)
          go_wp2_with fail
          refine (told_at 20 a0 a1 (1) _ (by omega) (by omega) (by omega) (by omega) (by omega) (by omega) (HF.out)).mono ?_
          rintro e v20 ⟨rfl, g20⟩
          replace g20 := g19.trans (g20.mono g19.size)
          go_wp2
          go_ret
          exact ⟨rfl, g20⟩
        · have HA : Hid (wd.doV 17 a0 a1 = 1) := bl.hid (show wd.bit _ = _ by rw [show decide (wrap64 a0 < wrap64 a1) = true from decide_eq_true (by omega)]; rfl)
          have HB : Hid (wd.doV 17 a1 a0 = 0) := bl.hid (show wd.bit _ = _ by rw [show decide (wrap64 a1 < wrap64 a0) = false from decide_eq_false (by omega)]; rfl)
          have HC : Hid (wd.doV 19 a0 a1 = 0) := bl.hid (show wd.bit _ = _ by rw [show (a0 == a1) = false by simp <;> omega]; rfl)
          have HD : Hid (wd.doV 18 a0 a1 = 0) := bl.hid (show wd.bit _ = _ by rw [show decide (a0 < a1) = false from decide_eq_false (by omega)]; rfl)
          have HE : Hid (wd.doV 18 a1 a0 = 1) := bl.hid (show wd.bit _ = _ by rw [show decide (a1 < a0) = true from decide_eq_true (by omega)]; rfl)
          have HF : Hid (wd.doV 20 a0 a1 = 1) := bl.hid (show wd.bit _ = _ by rw [show (a0 != a1) = true by simp <;> omega]; rfl)
          clear cx cy
          have b1 : (decide (9223372036854775808 ≤ a0) == decide (9223372036854775808 ≤ a1)) = false := by simpa using hs
          have b2 : (a0 == a1) = false := by simp; omega
          clear hs
          go_wp2_with fail
          refine (told_at 14 a0 a1 (wd.shl a0 k) _ (by omega) (by omega) (by omega) (by omega) (by omega) (by omega) (H14.out)).mono ?_
          rintro e v11 ⟨rfl, g11⟩
          replace g11 := g1.trans (g11.mono g1.size)
          go_wp2_with fail
          refine (told_at 15 a0 a1 (wd.shr a0 k) _ (by omega) (by omega) (by omega) (by omega) (by omega) (by omega) (H15.out)).mono ?_
          rintro e v12 ⟨rfl, g12⟩
          replace g12 := g11.trans (g12.mono g11.size)
          go_wp2_with fail
          refine (told_at 16 a0 a1 (wd.sar a0 k) _ (by omega) (by omega) (by omega) (by omega) (by omega) (by omega) (H16.out)).mono ?_
          rintro e v13 ⟨rfl, g13⟩
          replace g13 := g12.trans (g13.mono g12.size)
          go_wp2_with fail
          refine (told_at 14 a0 (a1 % 64) (wd.shl a0 k) _ (by omega) (by omega) (by omega) (by omega) (by omega) (by omega) (H14'.out)).mono ?_
          rintro e v14 ⟨rfl, g14⟩
          replace g14 := g13.trans (g14.mono g13.size)
          go_wp2_with fail
          refine (told_at 17 a0 a1 (1) _ (by omega) (by omega) (by omega) (by omega) (by omega) (by omega) (HA.out)).mono ?_
          rintro e v15 ⟨rfl, g15⟩
          replace g15 := g14.trans (g15.mono g14.size)
          go_wp2_with fail
          refine (told_at 17 a1 a0 (0) _ (by omega) (by omega) (by omega) (by omega) (by omega) (by omega) (HB.out)).mono ?_
          rintro e v16 ⟨rfl, g16⟩
          replace g16 := g15.trans (g16.mono g15.size)
          go_wp2_with fail
          refine (told_at 19 a0 a1 (0) _ (by omega) (by omega) (by omega) (by omega) (by omega) (by omega) (HC.out)).mono ?_
          rintro e v17 ⟨rfl, g17⟩
          replace g17 := g16.trans (g17.mono g16.size)
          go_wp2_with fail
          refine (told_at 18 a0 a1 (0) _ (by omega) (by omega) (by omega) (by omega) (by omega) (by omega) (HD.out)).mono ?_
          rintro e v18 ⟨rfl, g18⟩
          replace g18 := g17.trans (g18.mono g17.size)
          go_wp2_with fail
          refine (told_at 18 a1 a0 (1) _ (by omega) (by omega) (by omega) (by omega) (by omega) (by omega) (HE.out)).mono ?_
          rintro e v19 ⟨rfl, g19⟩
          replace g19 := g18.trans (g19.mono g18.size)
          go_wp2_with fail
          refine (told_at 20 a0 a1 (1) _ (by omega) (by omega) (by omega) (by omega) (by omega) (by omega) (HF.out)).mono ?_
          rintro e v20 ⟨rfl, g20⟩
          replace g20 := g19.trans (g20.mono g19.size)
          go_wp2
          go_ret
          exact ⟨rfl, g20⟩
end Go.Proofs.Ytimchannmigioaa
