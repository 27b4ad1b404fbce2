/- WordBack, walked: it returns true. -/
import Derived.Test.YtimchannmigioaaWLaws
import Derived.Test.YtimchannmigioaaKBytes
namespace Go.Proofs.Ytimchannmigioaa
open Go.RowKit
set_option linter.unusedVariables false

theorem getV_leB (x : Int) (n : Nat) (h : n = 1 ∨ n = 2 ∨ n = 4 ∨ n = 8) (x0 : 0 ≤ x) (x1 : x < 18446744073709551616) : wd.getV (wd.leB x n) = wd.zx x n ∧ wd.getE (wd.leB x n) = 0 := by
  have hl := wd.leB_length n x
  constructor
  · rw [wd.getV, if_pos (by omega), wd.leV_leB]
    rcases h with rfl | rfl | rfl | rfl
    · rfl
    · rfl
    · rfl
    · show x % 256 ^ 8 = x
      have e : (256 : Int) ^ 8 = 18446744073709551616 := rfl
      rw [e]
      omega
  · rw [wd.getE, if_neg (by omega), if_pos (by omega)]
theorem zx_sx (x : Int) (n : Nat) (h : n = 1 ∨ n = 2 ∨ n = 4 ∨ n = 8) (x0 : 0 ≤ x) (x1 : x < 18446744073709551616) : wd.zx (wd.sx x n) n = wd.zx x n := by
  rcases h with rfl | rfl | rfl | rfl
  · show wd.sx x 1 % 256 = x % 256
    rw [sx_1]; (repeat' split) <;> omega
  · show wd.sx x 2 % 65536 = x % 65536
    rw [sx_2]; (repeat' split) <;> omega
  · show wd.sx x 4 % 4294967296 = x % 4294967296
    rw [sx_4]; (repeat' split) <;> omega
  · rfl
theorem sx_zx_n (x : Int) (n : Nat) (h : n = 1 ∨ n = 2 ∨ n = 4 ∨ n = 8) (x0 : 0 ≤ x) (x1 : x < 18446744073709551616) : wd.sx (wd.zx x n) n = wd.sx x n := by
  rcases h with rfl | rfl | rfl | rfl
  · show wd.sx (x % 256) 1 = wd.sx x 1
    rw [sx_1, sx_1]; (repeat' split) <;> omega
  · show wd.sx (x % 65536) 2 = wd.sx x 2
    rw [sx_2, sx_2]; (repeat' split) <;> omega
  · show wd.sx (x % 4294967296) 4 = wd.sx x 4
    rw [sx_4, sx_4]; (repeat' split) <;> omega
  · rfl
theorem zx_not (x n : Int) (h : ¬ (n = 1 ∨ n = 2 ∨ n = 4 ∨ n = 8)) : wd.zx x n = 0 := by unfold wd.zx; repeat (rw [if_neg (by omega)])
theorem sx_not (x n : Int) (h : ¬ (n = 1 ∨ n = 2 ∨ n = 4 ∨ n = 8)) : wd.sx x n = 0 := by unfold wd.sx; repeat (rw [if_neg (by omega)])

set_option maxRecDepth 100000 in
set_option maxHeartbeats 3200000 in
theorem back_core (x a1 : Int) (a : Option Addr) (len cap : Nat) (l : List Int) (w : World) (x0 : 0 ≤ x) (x1 : x < 18446744073709551616) (hr : kt.Rd w a len l) :
    Calls Try.prog 6 #[.int .u64 x, .int .i64 a1, .slice a len cap] w fun e w' => e = .returned (.bool true) ∧ Below w.heap.size w w' := by
  have HR := bl.hid hr
  clear hr
  by_cases hn : a1 = 1 ∨ a1 = 2 ∨ a1 = 4 ∨ a1 = 8
  · obtain ⟨n, rfl⟩ : ∃ n : Nat, a1 = n := ⟨a1.toNat, by omega⟩
    have HN : Hid (n = 1 ∨ n = 2 ∨ n = 4 ∨ n = 8) := bl.hid (by omega)
    have hn8 : n ≤ 8 := by omega
    clear hn
    by_cases hl : 40 < len
    · go_enter Try.func6, Try.ntmps6
      go_wp2_with fail
      refine (awake_true _).mono ?_
      rintro e v1 ⟨rfl, g1⟩
      go_wp2_with fail
      refine (put_lit x n _ x0 x1 HN.out).mono ?_
      rintro e v2 ⟨pa, pc, rfl, hown, g2⟩
      replace g2 := g1.trans (g2.mono g1.size)
      have hrd : kt.Rd v2 pa n (wd.leB x n) := Rd_own (wd.leB_bytes _ _) hown
      have HD := bl.hid hrd
      clear hown hrd
      go_wp2_with fail
      refine (get_at _ n _ _ (wd.zx x n) 0 _ HD.out (getV_leB x n HN.out x0 x1).1 (getV_leB x n HN.out x0 x1).2).mono ?_
      rintro e w' ⟨rfl, rfl⟩
      go_wp2_with fail
      refine (zext_any x n _ x0 x1).mono ?_
      rintro e w' ⟨rfl, rfl⟩
      go_wp2_with fail
      refine (sext_any x n _ x0 x1).mono ?_
      rintro e w' ⟨rfl, rfl⟩
      go_wp2_with fail
      refine (zext_at _ n (wd.zx x n) _ (sx_bd x n x0 x1).1 (sx_bd x n x0 x1).2 (zx_sx x n HN.out x0 x1)).mono ?_
      rintro e w' ⟨rfl, rfl⟩
      go_wp2_with fail
      refine (sext_at _ n (wd.sx x n) _ (zx_bd x n x0 x1).1 (zx_bd x n x0 x1).2 (sx_zx_n x n HN.out x0 x1)).mono ?_
      rintro e w' ⟨rfl, rfl⟩
      go_wp2_with fail
      refine (sext_any x n _ x0 x1).mono ?_
      rintro e w' ⟨rfl, rfl⟩
      go_wp2
      go_ret
      exact ⟨rfl, g2⟩
    · have hl2 : len ≤ 40 := by omega
      clear hl
      have hlen := HR.out.1
      by_cases hg : len = 1 ∨ len = 2 ∨ len = 4 ∨ len = 8
      · have HV : Hid (wd.getV l = wd.leV l ∧ wd.getE l = 0) := bl.hid ⟨if_pos (by omega), by rw [wd.getE, if_neg (by omega), if_pos (by omega)]⟩
        have HL8 : Hid (l.length ≤ 8) := bl.hid (by omega)
        have HLN := bl.hid hg
        clear hg hlen
        go_enter Try.func6, Try.ntmps6
        go_wp2_with fail
        refine (awake_true _).mono ?_
        rintro e v1 ⟨rfl, g1⟩
        go_wp2_with fail
        refine (put_lit x n _ x0 x1 HN.out).mono ?_
        rintro e v2 ⟨pa, pc, rfl, hown, g2⟩
        replace g2 := g1.trans (g2.mono g1.size)
        have hrd : kt.Rd v2 pa n (wd.leB x n) := Rd_own (wd.leB_bytes _ _) hown
        have HD := bl.hid hrd
        clear hown hrd
        go_wp2_with fail
        refine (get_at _ n _ _ (wd.zx x n) 0 _ HD.out (getV_leB x n HN.out x0 x1).1 (getV_leB x n HN.out x0 x1).2).mono ?_
        rintro e w' ⟨rfl, rfl⟩
        go_wp2_with fail
        refine (zext_any x n _ x0 x1).mono ?_
        rintro e w' ⟨rfl, rfl⟩
        go_wp2_with fail
        refine (sext_any x n _ x0 x1).mono ?_
        rintro e w' ⟨rfl, rfl⟩
        go_wp2_with fail
        refine (zext_at _ n (wd.zx x n) _ (sx_bd x n x0 x1).1 (sx_bd x n x0 x1).2 (zx_sx x n HN.out x0 x1)).mono ?_
        rintro e w' ⟨rfl, rfl⟩
        go_wp2_with fail
        refine (sext_at _ n (wd.sx x n) _ (zx_bd x n x0 x1).1 (zx_bd x n x0 x1).2 (sx_zx_n x n HN.out x0 x1)).mono ?_
        rintro e w' ⟨rfl, rfl⟩
        go_wp2_with fail
        refine (sext_any x n _ x0 x1).mono ?_
        rintro e w' ⟨rfl, rfl⟩
        have HK := bl.hid (HR.out.keep g2)
        go_wp2_with fail
        refine (get_at a len cap l (wd.leV l) 0 _ HK.out HV.out.1 HV.out.2).mono ?_
        rintro e w' ⟨rfl, rfl⟩
        go_wp2_with fail
        refine (put_lit (wd.leV l) len _ (leV_bd8 l HR.out.2.1 HL8.out).1 (leV_bd8 l HR.out.2.1 HL8.out).2 HLN.out).mono ?_
        rintro e v3 ⟨qa, qc, rfl, hown, g3⟩
        have hb8 := g3
        replace g3 := g2.trans (g3.mono g2.size)
        have HQ := bl.hid (Rd_own (wd.leB_bytes _ _) hown)
        have HB := bl.hid (HK.out.keep hb8)
        clear hown hb8
        go_wp2_with fail
        refine (same_yes _ _ len len _ _ (wd.leB (wd.leV l) len) l _ HQ.out HB.out (by rw [← HR.out.1]; exact wd.leB_leV l HR.out.2.1)).mono ?_
        rintro e w' ⟨rfl, rfl⟩
        go_wp2
        go_ret
        exact ⟨rfl, g3⟩
      · have HV : Hid (wd.getV l = 0) := bl.hid (if_neg (by omega))
        have HE : (wd.getE l == 0) = false := by
          unfold wd.getE
          split
          · rfl
          · rw [if_neg (by omega)]
            rfl
        clear hg hlen
        go_enter Try.func6, Try.ntmps6
        go_wp2_with fail
        refine (awake_true _).mono ?_
        rintro e v1 ⟨rfl, g1⟩
        go_wp2_with fail
        refine (put_lit x n _ x0 x1 HN.out).mono ?_
        rintro e v2 ⟨pa, pc, rfl, hown, g2⟩
        replace g2 := g1.trans (g2.mono g1.size)
        have hrd : kt.Rd v2 pa n (wd.leB x n) := Rd_own (wd.leB_bytes _ _) hown
        have HD := bl.hid hrd
        clear hown hrd
        go_wp2_with fail
        refine (get_at _ n _ _ (wd.zx x n) 0 _ HD.out (getV_leB x n HN.out x0 x1).1 (getV_leB x n HN.out x0 x1).2).mono ?_
        rintro e w' ⟨rfl, rfl⟩
        go_wp2_with fail
        refine (zext_any x n _ x0 x1).mono ?_
        rintro e w' ⟨rfl, rfl⟩
        go_wp2_with fail
        refine (sext_any x n _ x0 x1).mono ?_
        rintro e w' ⟨rfl, rfl⟩
        go_wp2_with fail
        refine (zext_at _ n (wd.zx x n) _ (sx_bd x n x0 x1).1 (sx_bd x n x0 x1).2 (zx_sx x n HN.out x0 x1)).mono ?_
        rintro e w' ⟨rfl, rfl⟩
        go_wp2_with fail
        refine (sext_at _ n (wd.sx x n) _ (zx_bd x n x0 x1).1 (zx_bd x n x0 x1).2 (sx_zx_n x n HN.out x0 x1)).mono ?_
        rintro e w' ⟨rfl, rfl⟩
        go_wp2_with fail
        refine (sext_any x n _ x0 x1).mono ?_
        rintro e w' ⟨rfl, rfl⟩
        go_wp2_with fail
        refine (get_any a len cap l _ (HR.out.keep g2)).mono ?_
        rw [HV.out]
        rintro e w' ⟨rfl, rfl⟩
        go_wp2
        go_ret
        exact ⟨rfl, g2⟩
  · have HN := bl.hid hn
    clear hn
    by_cases hl : 40 < len
    · go_enter Try.func6, Try.ntmps6
      go_wp2_with fail
      refine (awake_true _).mono ?_
      rintro e v1 ⟨rfl, g1⟩
      go_wp2_with fail
      refine (put_no x a1 _ HN.out).mono ?_
      rintro e w' ⟨rfl, rfl⟩
      go_wp2_with fail
      refine (zext_at x a1 0 _ x0 x1 (zx_not _ _ HN.out)).mono ?_
      rintro e w' ⟨rfl, rfl⟩
      go_wp2_with fail
      refine (sext_at x a1 0 _ x0 x1 (sx_not _ _ HN.out)).mono ?_
      rintro e w' ⟨rfl, rfl⟩
      go_wp2
      go_ret
      exact ⟨rfl, g1⟩
    · have hl2 : len ≤ 40 := by omega
      clear hl
      have hlen := HR.out.1
      by_cases hg : len = 1 ∨ len = 2 ∨ len = 4 ∨ len = 8
      · have HV : Hid (wd.getV l = wd.leV l ∧ wd.getE l = 0) := bl.hid ⟨if_pos (by omega), by rw [wd.getE, if_neg (by omega), if_pos (by omega)]⟩
        have HL8 : Hid (l.length ≤ 8) := bl.hid (by omega)
        have HLN := bl.hid hg
        clear hg hlen
        go_enter Try.func6, Try.ntmps6
        go_wp2_with fail
        refine (awake_true _).mono ?_
        rintro e v1 ⟨rfl, g1⟩
        go_wp2_with fail
        refine (put_no x a1 _ HN.out).mono ?_
        rintro e w' ⟨rfl, rfl⟩
        go_wp2_with fail
        refine (zext_at x a1 0 _ x0 x1 (zx_not _ _ HN.out)).mono ?_
        rintro e w' ⟨rfl, rfl⟩
        go_wp2_with fail
        refine (sext_at x a1 0 _ x0 x1 (sx_not _ _ HN.out)).mono ?_
        rintro e w' ⟨rfl, rfl⟩
        have HK := bl.hid (HR.out.keep g1)
        go_wp2_with fail
        refine (get_at a len cap l (wd.leV l) 0 _ HK.out HV.out.1 HV.out.2).mono ?_
        rintro e w' ⟨rfl, rfl⟩
        go_wp2_with fail
        refine (put_lit (wd.leV l) len _ (leV_bd8 l HR.out.2.1 HL8.out).1 (leV_bd8 l HR.out.2.1 HL8.out).2 HLN.out).mono ?_
        rintro e v2 ⟨qa, qc, rfl, hown, g2⟩
        have hb8 := g2
        replace g2 := g1.trans (g2.mono g1.size)
        have HQ := bl.hid (Rd_own (wd.leB_bytes _ _) hown)
        have HB := bl.hid (HK.out.keep hb8)
        clear hown hb8
        go_wp2_with fail
        refine (same_yes _ _ len len _ _ (wd.leB (wd.leV l) len) l _ HQ.out HB.out (by rw [← HR.out.1]; exact wd.leB_leV l HR.out.2.1)).mono ?_
        rintro e w' ⟨rfl, rfl⟩
        go_wp2
        go_ret
        exact ⟨rfl, g2⟩
      · have HV : Hid (wd.getV l = 0) := bl.hid (if_neg (by omega))
        have HE : (wd.getE l == 0) = false := by
          unfold wd.getE
          split
          · rfl
          · rw [if_neg (by omega)]
            rfl
        clear hg hlen
        go_enter Try.func6, Try.ntmps6
        go_wp2_with fail
        refine (awake_true _).mono ?_
        rintro e v1 ⟨rfl, g1⟩
        go_wp2_with fail
        refine (put_no x a1 _ HN.out).mono ?_
        rintro e w' ⟨rfl, rfl⟩
        go_wp2_with fail
        refine (zext_at x a1 0 _ x0 x1 (zx_not _ _ HN.out)).mono ?_
        rintro e w' ⟨rfl, rfl⟩
        go_wp2_with fail
        refine (sext_at x a1 0 _ x0 x1 (sx_not _ _ HN.out)).mono ?_
        rintro e w' ⟨rfl, rfl⟩
        go_wp2_with fail
        refine (get_any a len cap l _ (HR.out.keep g1)).mono ?_
        rw [HV.out]
        rintro e w' ⟨rfl, rfl⟩
        go_wp2
        go_ret
        exact ⟨rfl, g1⟩
theorem back_walk (a0 : Int) (a1 : Int) (a2 : Option Addr) (len2 cap2 : Nat) (z2 : List Int) (w : World) (w0 : (Lit.int .u64 a0).wf = true) (w1 : (Lit.int .i64 a1).wf = true) (w2 : (a2 = none ∧ len2 = 0 ∧ cap2 = 0 ∧ z2 = []) ∨ ∃ x, a2 = some x ∧ len2 ≤ cap2 ∧ cap2 ≤ maxLen ∧ z2.length = cap2 ∧ (∀ i, i < z2.length → w.cell? (x.add i) = some (.int .u8 (z2.getD i 0))) ∧ ∀ n ∈ z2, (Lit.int .u8 n).wf = true) :
    Calls Try.prog 6 #[.int .u64 a0, .int .i64 a1, .slice a2 len2 cap2] w fun e w' => e = .returned (.bool true) ∧ Below w.heap.size w w' :=
  back_core a0 a1 a2 len2 cap2 _ w (bl.wf_u64 w0).1 (bl.wf_u64 w0).2 (kt.Rd.come w2)
end Go.Proofs.Ytimchannmigioaa
