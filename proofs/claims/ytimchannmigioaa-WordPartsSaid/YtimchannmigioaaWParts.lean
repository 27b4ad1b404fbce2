/- WordParts, walked: it returns true. -/
import Derived.Test.YtimchannmigioaaWBack
namespace Go.Proofs.Ytimchannmigioaa
open Go.RowKit
set_option linter.unusedVariables false

set_option maxRecDepth 100000 in
set_option maxHeartbeats 3200000 in
theorem parts_core (x a1 : Int) (a : Option Addr) (len cap : Nat) (l : List Int) (w : World) (x0 : 0 ≤ x) (x1 : x < 18446744073709551616) (hr : kt.Rd w a len l) :
    Calls Try.prog 5 #[.int .u64 x, .int .i64 a1, .slice a len cap] w fun e w' => e = .returned (.bool true) ∧ Below w.heap.size w w' := by
  have HR := bl.hid hr
  clear hr
  by_cases hl : 40 < len
  · go_enter Try.func5, Try.ntmps5
    go_wp2_with fail
    refine (awake_true _).mono ?_
    rintro e v1 ⟨rfl, g1⟩
    go_wp2
    go_ret
    exact ⟨rfl, g1⟩
  · have hl2 : len ≤ 40 := by omega
    clear hl
    by_cases hn : a1 = 1 ∨ a1 = 2 ∨ a1 = 4 ∨ a1 = 8
    · obtain ⟨n, rfl⟩ : ∃ n : Nat, a1 = n := ⟨a1.toNat, by omega⟩
      have HN : Hid (n = 1 ∨ n = 2 ∨ n = 4 ∨ n = 8) := bl.hid (by omega)
      have hn8 : n ≤ 8 := by omega
      clear hn
      go_enter Try.func5, Try.ntmps5
      go_wp2_with fail
      refine (lent_any a len cap l _ HR.out (by omega)).mono ?_
      rintro e v1 ⟨g, lc, rfl, hown, b1⟩
      have hrd : kt.Rd v1 (some ⟨g, 0, none⟩) (len + 3) (l ++ [77, 201, 5]) := Rd_own (by intro z hz; rcases List.mem_append.1 hz with hz | hz; exact HR.out.2.1 z hz; simp at hz; omega) hown
      have hgl := (hown.lt g rfl).2
      have HD := bl.hid hrd
      have HA := bl.hid (HR.out.keep b1)
      clear hown hrd
      go_wp2_with fail
      refine (put_lit x n _ x0 x1 HN.out).mono ?_
      rintro e v2 ⟨pa, pc, rfl, hown, b2⟩
      go_wp2_with fail
      refine (rput_lit x n _ x0 x1 HN.out).mono ?_
      rintro e v3 ⟨qa, qc, rfl, hownq, b3⟩
      have HP := bl.hid hown
      have HQ := bl.hid hownq
      have b13 := b2.trans (b3.mono b2.size)
      clear hown hownq
      have HP3 := bl.hid (HP.out.below b3 (Nat.le_refl _))
      have HL3 := bl.hid (Rd_append (m := [77, 201, 5]) (HD.out.keep b13) HR.out.1).1
      have HA3 := bl.hid (HA.out.keep b13)
      go_wp2_with fail
      refine (get_any _ len _ l _ HL3.out).mono ?_
      rintro e w' ⟨rfl, rfl⟩
      go_wp2_with fail
      refine (rget_any a len cap l _ HA3.out).mono ?_
      rintro e w' ⟨rfl, rfl⟩
      go_wp2_with fail
      refine (same_yes _ _ n n _ _ (wd.leB x n) (wd.leB x n) _ (Rd_own (wd.leB_bytes _ _) HP3.out) (Rd_own (wd.leB_bytes _ _) HQ.out) rfl).mono ?_
      rintro e w' ⟨rfl, rfl⟩
      have hsh : ∃ gp, ∃ cur : List Value, pa = some ⟨gp, 0, none⟩ ∧ v1.heap.size ≤ gp ∧ v3.heap[gp]? = some (.cells cur.toArray 5 (0, 0)) ∧ n ≤ pc ∧ pc ≤ cur.length ∧ pc ≤ 9223372036854775807 ∧ ∀ c ∈ cur, kt.IsU8 c := by
        rcases HP3.out.2 with ⟨hv, h0⟩ | ⟨gp, cp, cur, hv, q1, q2, q3, q4, q5, -, q7⟩
        · have := HN.out
          omega
        · simp only [Value.slice.injEq] at hv
          obtain ⟨rfl, -, rfl⟩ := hv
          exact ⟨gp, cur, rfl, q1, q2, q3, by omega, by unfold maxLen at q4; omega, q7⟩
      obtain ⟨gp, cur, hpa, q1, q2, q3, q4, q5, q6⟩ := hsh
      have HQ2 := bl.hid q2
      have HQ6 := bl.hid q6
      clear q2 q6
      rw [hpa]
      clear hpa
      go_wp2_with fail
      refine (over_any gp n pc cur _ HQ2.out q4 q3 q5 HQ6.out).mono ?_
      rintro e v4 ⟨rfl, ho⟩
      have b14 := b13.trans (ho.below q1)
      clear ho q1 q3 q4 q5
      go_wp2_with fail
      refine (zext_any x n _ x0 x1).mono ?_
      rintro e w' ⟨rfl, rfl⟩
      go_wp2_with fail
      refine (rzext_any x n _ x0 x1).mono ?_
      rintro e w' ⟨rfl, rfl⟩
      go_wp2_with fail
      refine (sext_any x n _ x0 x1).mono ?_
      rintro e w' ⟨rfl, rfl⟩
      go_wp2_with fail
      refine (rsext_any x n _ x0 x1).mono ?_
      rintro e w' ⟨rfl, rfl⟩
      have HL4 := bl.hid (HD.out.keep b14)
      have HA4 := bl.hid (HA.out.keep b14)
      have hgl4 : g < v4.heap.size := Nat.lt_of_lt_of_le hgl b14.size
      go_wp2_with fail
      refine (kept_yes g a len cap l _ HL4.out HA4.out (by omega) hgl4).mono ?_
      rintro e v5 ⟨rfl, b5⟩
      go_wp2_with fail
      refine (awake_true _).mono ?_
      rintro e v6 ⟨rfl, b6⟩
      have bb := b1.trans ((b14.trans ((b5.trans (b6.mono b5.size)).mono b14.size)).mono b1.size)
      go_wp2
      go_ret
      exact ⟨rfl, bb⟩
    · have HN := bl.hid hn
      clear hn
      go_enter Try.func5, Try.ntmps5
      go_wp2_with fail
      refine (lent_any a len cap l _ HR.out (by omega)).mono ?_
      rintro e v1 ⟨g, lc, rfl, hown, b1⟩
      have hrd : kt.Rd v1 (some ⟨g, 0, none⟩) (len + 3) (l ++ [77, 201, 5]) := Rd_own (by intro z hz; rcases List.mem_append.1 hz with hz | hz; exact HR.out.2.1 z hz; simp at hz; omega) hown
      have hgl := (hown.lt g rfl).2
      have HD := bl.hid hrd
      have HA := bl.hid (HR.out.keep b1)
      clear hown hrd
      go_wp2_with fail
      refine (put_no x a1 _ HN.out).mono ?_
      rintro e w' ⟨rfl, rfl⟩
      go_wp2_with fail
      refine (rput_no x a1 _ HN.out).mono ?_
      rintro e w' ⟨rfl, rfl⟩
      have b13 := Below.refl v1.heap.size v1
      have HL3 := bl.hid (Rd_append (m := [77, 201, 5]) (HD.out.keep b13) HR.out.1).1
      have HA3 := bl.hid (HA.out.keep b13)
      go_wp2_with fail
      refine (get_any _ len _ l _ HL3.out).mono ?_
      rintro e w' ⟨rfl, rfl⟩
      go_wp2_with fail
      refine (rget_any a len cap l _ HA3.out).mono ?_
      rintro e w' ⟨rfl, rfl⟩
      go_wp2_with fail
      refine (same_yes none none 0 0 0 0 [] [] _ (kt.Rd.nil _ _) (kt.Rd.nil _ _) rfl).mono ?_
      rintro e w' ⟨rfl, rfl⟩
      go_wp2_with fail
      refine (over_nil 0 _).mono ?_
      rintro e w' ⟨rfl, rfl⟩
      have b14 := b13
      go_wp2_with fail
      refine (zext_any x a1 _ x0 x1).mono ?_
      rintro e w' ⟨rfl, rfl⟩
      go_wp2_with fail
      refine (rzext_any x a1 _ x0 x1).mono ?_
      rintro e w' ⟨rfl, rfl⟩
      go_wp2_with fail
      refine (sext_any x a1 _ x0 x1).mono ?_
      rintro e w' ⟨rfl, rfl⟩
      go_wp2_with fail
      refine (rsext_any x a1 _ x0 x1).mono ?_
      rintro e w' ⟨rfl, rfl⟩
      have HL4 := bl.hid (HD.out.keep b14)
      have HA4 := bl.hid (HA.out.keep b14)
      have hgl4 : g < v1.heap.size := Nat.lt_of_lt_of_le hgl b14.size
      go_wp2_with fail
      refine (kept_yes g a len cap l _ HL4.out HA4.out (by omega) hgl4).mono ?_
      rintro e v5 ⟨rfl, b5⟩
      go_wp2_with fail
      refine (awake_true _).mono ?_
      rintro e v6 ⟨rfl, b6⟩
      have bb := b1.trans ((b14.trans ((b5.trans (b6.mono b5.size)).mono b14.size)).mono b1.size)
      go_wp2
      go_ret
      exact ⟨rfl, bb⟩
theorem parts_walk (a0 : Int) (a1 : Int) (a2 : Option Addr) (len2 cap2 : Nat) (z2 : List Int) (w : World) (w0 : (Lit.int .u64 a0).wf = true) (w1 : (Lit.int .i64 a1).wf = true) (w2 : (a2 = none ∧ len2 = 0 ∧ cap2 = 0 ∧ z2 = []) ∨ ∃ x, a2 = some x ∧ len2 ≤ cap2 ∧ cap2 ≤ maxLen ∧ z2.length = cap2 ∧ (∀ i, i < z2.length → w.cell? (x.add i) = some (.int .u8 (z2.getD i 0))) ∧ ∀ n ∈ z2, (Lit.int .u8 n).wf = true) :
    Calls Try.prog 5 #[.int .u64 a0, .int .i64 a1, .slice a2 len2 cap2] w fun e w' => e = .returned (.bool true) ∧ Below w.heap.size w w' :=
  parts_core a0 a1 a2 len2 cap2 _ w (bl.wf_u64 w0).1 (bl.wf_u64 w0).2 (kt.Rd.come w2)
end Go.Proofs.Ytimchannmigioaa
