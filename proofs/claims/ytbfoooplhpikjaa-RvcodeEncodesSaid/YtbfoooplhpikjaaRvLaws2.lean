/- The laws without the reference, walked. -/
import Derived.Test.YtbfoooplhpikjaaRvLaws
namespace Go.Proofs.Ytbfoooplhpikjaa
open Go.RowKit
set_option linter.unusedVariables false
set_option maxHeartbeats 800000 in
theorem awake_any (w : World) : Calls Try.prog 12 #[] w fun e w' => e = .returned (.bool true) ∧ Below w.heap.size w w' := by
  go_enter Try.func12, Try.ntmps12
  go_wp2_with fail
  refine (dec_115 _).mono ?_
  rintro e w1 ⟨rfl, hb⟩
  have hsz1 := hb.size
  have HB1 := bl.hid (kt.below_call (Below.refl _ _) hb)
  clear hb
  go_wp2_with fail
  refine (is_ok _ _ _ _ _ _ rv.k1.1 rv.k1.2 _).mono ?_
  rintro e w2 ⟨rfl, hb⟩
  have hsz2 := hb.size
  rw [World.size_alloc] at hsz2
  have x_2 := bl.hid ((hb.block _ (by rw [World.size_alloc]; omega)).trans ((heap_alloc_new _ _)))
  have kx_2 : w1.heap.size < w2.heap.size := by omega
  have HB2 := bl.hid (kt.below_call (kt.below_more' HB1.out _) hb)
  clear hb
  go_wp2_with fail
  refine (is_ok _ _ _ _ _ _ rv.k2.1 rv.k2.2 _).mono ?_
  rintro e w3 ⟨rfl, hb⟩
  have hsz3 := hb.size
  have x_3 := bl.hid ((hb.block _ (by omega)).trans x_2.out)
  have kx_3 : w1.heap.size < w3.heap.size := by omega
  have HB3 := bl.hid (kt.below_call HB2.out hb)
  clear hb x_2
  go_wp2_with fail
  refine (is_ok _ _ _ _ _ _ rv.k3.1 rv.k3.2 _).mono ?_
  rintro e w4 ⟨rfl, hb⟩
  have hsz4 := hb.size
  have x_4 := bl.hid ((hb.block _ (by omega)).trans x_3.out)
  have kx_4 : w1.heap.size < w4.heap.size := by omega
  have HB4 := bl.hid (kt.below_call HB3.out hb)
  clear hb x_3
  obtain ⟨c0, c1, c2, c3, c4⟩ := RvAt.of_box x_4.out
  go_wp2
  go_ret
  exact ⟨rfl, HB4.out⟩
set_option maxHeartbeats 1600000 in
theorem known_any (w : World) : Calls Try.prog 7 #[] w fun e w' => e = .returned (.bool true) ∧ Below w.heap.size w w' := by
  have HNm : Hid (∀ w, Calls Try.prog 15 #[.int .i64 63] w fun e w' => e = .returned (.string ⟨#[101, 99, 97, 108, 108]⟩) ∧ Below w.heap.size w w') := bl.hid fun w => by have := name_any 63 w; rwa [rv.k15.1] at this
  have HFm : Hid (∀ w, Calls Try.prog 19 #[.int .i64 35] w fun e w' => e = .returned (.string ⟨#[82]⟩) ∧ Below w.heap.size w w') := bl.hid fun w => by have := form_any 35 w; rwa [rv.k15.2] at this
  go_enter Try.func7, Try.ntmps7
  go_wp2_with fail
  refine (dec_no 0 (by omega) (by omega) rv.k7 _).mono ?_
  rintro e w1 ⟨rfl, hb⟩
  have hsz1 := hb.size
  have HB1 := bl.hid (kt.below_call (Below.refl _ _) hb)
  clear hb
  go_wp2_with fail
  refine (dec_no 4294967295 (by omega) (by omega) rv.k8 _).mono ?_
  rintro e w2 ⟨rfl, hb⟩
  have hsz2 := hb.size
  rw [World.size_alloc] at hsz2
  have HB2 := bl.hid (kt.below_call (kt.below_more' HB1.out _) hb)
  clear hb
  go_wp2_with fail
  refine (chk_at _ _ _ _ _ _ rv.k9.1 _).mono ?_
  rintro e w3 ⟨rfl, hb⟩
  have hsz3 := hb.size
  rw [World.size_alloc] at hsz3
  have HB3 := bl.hid (kt.below_call (kt.below_more' HB2.out _) hb)
  clear hb
  go_wp2_with fail
  refine (chk_at _ _ _ _ _ _ rv.k9.2.1 _).mono ?_
  rintro e w4 ⟨rfl, hb⟩
  have hsz4 := hb.size
  have HB4 := bl.hid (kt.below_call HB3.out hb)
  clear hb
  go_wp2_with fail
  refine (chk_at _ _ _ _ _ _ rv.k9.2.2 _).mono ?_
  rintro e w5 ⟨rfl, hb⟩
  have hsz5 := hb.size
  have HB5 := bl.hid (kt.below_call HB4.out hb)
  clear hb
  go_wp2_with fail
  refine (is_ok _ _ _ _ _ _ rv.k10.1 rv.k10.2 _).mono ?_
  rintro e w6 ⟨rfl, hb⟩
  have hsz6 := hb.size
  have HB6 := bl.hid (kt.below_call HB5.out hb)
  clear hb
  go_wp2_with fail
  refine (is_ok _ _ _ _ _ _ rv.k11.1 rv.k11.2 _).mono ?_
  rintro e w7 ⟨rfl, hb⟩
  have hsz7 := hb.size
  have HB7 := bl.hid (kt.below_call HB6.out hb)
  clear hb
  go_wp2_with fail
  refine (is_ok _ _ _ _ _ _ rv.k12.1 rv.k12.2 _).mono ?_
  rintro e w8 ⟨rfl, hb⟩
  have hsz8 := hb.size
  have HB8 := bl.hid (kt.below_call HB7.out hb)
  clear hb
  go_wp2_with fail
  refine (is_ok _ _ _ _ _ _ rv.k13.1 rv.k13.2 _).mono ?_
  rintro e w9 ⟨rfl, hb⟩
  have hsz9 := hb.size
  have HB9 := bl.hid (kt.below_call HB8.out hb)
  clear hb
  go_wp2_with fail
  refine (is_ok _ _ _ _ _ _ rv.k14.1 rv.k14.2 _).mono ?_
  rintro e w10 ⟨rfl, hb⟩
  have hsz10 := hb.size
  have HB10 := bl.hid (kt.below_call HB9.out hb)
  clear hb
  go_wp2_with fail
  refine (awake_any _).mono ?_
  rintro e w11 ⟨rfl, hb⟩
  have hsz11 := hb.size
  have HB11 := bl.hid (kt.below_call HB10.out hb)
  clear hb
  go_wp2_with fail
  refine (HNm.out _).mono ?_
  rintro e w12 ⟨rfl, hb⟩
  have hsz12 := hb.size
  have HB12 := bl.hid (kt.below_call HB11.out hb)
  clear hb
  go_wp2_with fail
  refine (HFm.out _).mono ?_
  rintro e w13 ⟨rfl, hb⟩
  have hsz13 := hb.size
  have HB13 := bl.hid (kt.below_call HB12.out hb)
  clear hb
  go_wp2
  go_ret
  exact ⟨rfl, HB13.out⟩
theorem bt (b : Bool) (h : b = true) : Ending.returned (Value.bool b) = .returned (.bool true) := by rw [h]
namespace rv
theorem dec_back (op rd rs1 rs2 im : Int) (h : chkI op rd rs1 rs2 im = 0) : (0 ≤ encI op rd rs1 rs2 im ∧ encI op rd rs1 rs2 im < 4294967296) ∧ decRow (encI op rd rs1 rs2 im) = #[.int .i64 op, .int .i64 rd, .int .i64 rs1, .int .i64 rs2, .int .i64 im] ∧ decE (encI op rd rs1 rs2 im) = 0 := by
  obtain ⟨h1, h2⟩ := chk_is _ _ _ _ _ h
  obtain ⟨k, rfl⟩ : ∃ k : Nat, op = k := ⟨op.toNat, by omega⟩
  have hc := (chkI_nat k (by omega) (by omega) rd rs1 rs2 im).mp h
  have e : encI k rd rs1 rs2 im = wordK k rd rs1 rs2 im := by unfold encI; rw [if_pos h, Int.toNat_natCast]
  have hh := has_any k (by omega) (by omega) _ _ _ _ hc
  have ho := opOf_word k (by omega) (by omega) _ _ _ _ hc
  rw [e]
  refine ⟨hh.rng, ?_, ?_⟩
  · unfold decRow
    rw [ho, if_pos (by omega)]
    unfold readRow
    rw [hh.n1, hh.n2, hh.n3, hh.n4]
  · unfold decE
    rw [ho, if_pos (by omega)]
theorem dec_yes (v : Int) (h : decE v = 0) : ∃ k : Nat, 1 ≤ k ∧ k < 64 ∧ ∃ rd rs1 rs2 im : Int, decRow v = #[.int .i64 k, .int .i64 rd, .int .i64 rs1, .int .i64 rs2, .int .i64 im] ∧ chkI k rd rs1 rs2 im = 0 ∧ encI k rd rs1 rs2 im = v := by
  rcases opOf_hits v with ⟨a, b⟩ | ⟨a, b, c⟩
  · rw [(dec_none v a).1] at h
    cases h
  · obtain ⟨p, q⟩ := hits_has _ b a v c
    refine ⟨opOf v, a, b, _, _, _, _, ?_, (chkI_nat _ b a _ _ _ _).mpr p, ?_⟩
    · unfold decRow
      rw [if_pos b]
      rfl
    · unfold encI
      rw [if_pos ((chkI_nat _ b a _ _ _ _).mpr p), Int.toNat_natCast]
      exact q
theorem name_some : ∀ k, k < 64 → 1 ≤ k → (row k).name.toList ≠ [] := by decide +kernel
end rv
set_option maxHeartbeats 1600000 in
theorem back_any (a0 a1 a2 a3 a4 : Int) (w : World) : Calls Try.prog 8 #[.agg #[.int .i64 a0, .int .i64 a1, .int .i64 a2, .int .i64 a3, .int .i64 a4]] w fun e w' => e = .returned (.bool true) ∧ Below w.heap.size w w' := by
  by_cases hc : rv.chkI a0 a1 a2 a3 a4 = 0
  · obtain ⟨⟨v0, v1⟩, hd, he⟩ := rv.dec_back _ _ _ _ _ hc
    have HE := bl.hid (fun w => encode_any a0 a1 a2 a3 a4 w)
    obtain ⟨v, hv⟩ : ∃ v, rv.encI a0 a1 a2 a3 a4 = v := ⟨_, rfl⟩
    rw [hv] at HE hd he v0 v1
    rw [hc] at HE
    have HD := bl.hid (fun w => decode_any v v0 v1 w)
    rw [hd, he] at HD
    have HC := bl.hid (fun w => chk_at _ _ _ _ _ _ hc w)
    clear hc hd he hv
    go_enter Try.func8, Try.ntmps8
    go_wp2_with fail
    refine (known_any _).mono ?_
    rintro e w1 ⟨rfl, hb⟩
    have hsz1 := hb.size
    rw [World.size_alloc] at hsz1
    have x_1 := bl.hid ((hb.block _ (by rw [World.size_alloc]; omega)).trans ((heap_alloc_new _ _)))
    have kx_1 : w.heap.size < w1.heap.size := by omega
    have HB1 := bl.hid (kt.below_call (kt.below_more' (Below.refl _ _) _) hb)
    clear hb
    obtain ⟨c0, c1, c2, c3, c4⟩ := RvAt.of_box x_1.out
    go_wp2_with fail
    refine (HE.out _).mono ?_
    rintro e w2 ⟨rfl, hb⟩
    have hsz2 := hb.size
    have x_2 := bl.hid ((hb.block _ (by omega)).trans x_1.out)
    have kx_2 : w.heap.size < w2.heap.size := by omega
    have HB2 := bl.hid (kt.below_call HB1.out hb)
    clear hb x_1
    clear c0 c1 c2 c3 c4
    go_wp2_with fail
    refine (HD.out _).mono ?_
    rintro e w3 ⟨rfl, hb⟩
    have hsz3 := hb.size
    have x_3 := bl.hid ((hb.block _ (by omega)).trans x_2.out)
    have kx_3 : w.heap.size < w3.heap.size := by omega
    have HB3 := bl.hid (kt.below_call HB2.out hb)
    clear hb x_2
    obtain ⟨c0, c1, c2, c3, c4⟩ := RvAt.of_box x_3.out
    go_wp2_with fail
    refine (HC.out _).mono ?_
    rintro e w4 ⟨rfl, hb⟩
    have hsz4 := hb.size
    rw [World.size_alloc] at hsz4
    have x_4 := bl.hid ((hb.block _ (by rw [World.size_alloc]; omega)).trans ((heap_alloc_old _ _ (by omega)).trans (x_3.out)))
    have kx_4 : w.heap.size < w4.heap.size := by omega
    have y_4 := bl.hid ((hb.block _ (by rw [World.size_alloc]; omega)).trans ((heap_alloc_new _ _)))
    have ky_4 : w3.heap.size < w4.heap.size := by omega
    have HB4 := bl.hid (kt.below_call (kt.below_more' HB3.out _) hb)
    clear hb x_3
    clear c0 c1 c2 c3 c4
    obtain ⟨c0, c1, c2, c3, c4⟩ := RvAt.of_box x_4.out
    obtain ⟨d0, d1, d2, d3, d4⟩ := RvAt.of_box y_4.out
    go_wp2
    go_ret
    exact ⟨rfl, HB4.out⟩
  · have HE := bl.hid (fun w => encode_any a0 a1 a2 a3 a4 w)
    have hv : rv.encI a0 a1 a2 a3 a4 = 0 := by unfold rv.encI; rw [if_neg hc]
    have HC := bl.hid (fun w => check_any a0 a1 a2 a3 a4 w)
    obtain ⟨q, hq⟩ : ∃ q, rv.chkI a0 a1 a2 a3 a4 = q := ⟨_, rfl⟩
    rw [hv, hq] at HE
    rw [hq] at HC hc
    have hq1 : (q != 0) = true := by simpa using hc
    clear hc hv hq
    go_enter Try.func8, Try.ntmps8
    go_wp2_with fail
    refine (known_any _).mono ?_
    rintro e w1 ⟨rfl, hb⟩
    have hsz1 := hb.size
    rw [World.size_alloc] at hsz1
    have x_1 := bl.hid ((hb.block _ (by rw [World.size_alloc]; omega)).trans ((heap_alloc_new _ _)))
    have kx_1 : w.heap.size < w1.heap.size := by omega
    have HB1 := bl.hid (kt.below_call (kt.below_more' (Below.refl _ _) _) hb)
    clear hb
    obtain ⟨c0, c1, c2, c3, c4⟩ := RvAt.of_box x_1.out
    go_wp2_with fail
    refine (HE.out _).mono ?_
    rintro e w2 ⟨rfl, hb⟩
    have hsz2 := hb.size
    have x_2 := bl.hid ((hb.block _ (by omega)).trans x_1.out)
    have kx_2 : w.heap.size < w2.heap.size := by omega
    have HB2 := bl.hid (kt.below_call HB1.out hb)
    clear hb x_1
    clear c0 c1 c2 c3 c4
    obtain ⟨c0, c1, c2, c3, c4⟩ := RvAt.of_box x_2.out
    go_wp2_with fail
    refine (HC.out _).mono ?_
    rintro e w3 ⟨rfl, hb⟩
    have hsz3 := hb.size
    have x_3 := bl.hid ((hb.block _ (by omega)).trans x_2.out)
    have kx_3 : w.heap.size < w3.heap.size := by omega
    have HB3 := bl.hid (kt.below_call HB2.out hb)
    clear hb x_2
    clear c0 c1 c2 c3 c4
    go_wp2
    go_ret
    exact ⟨rfl, HB3.out⟩
set_option maxHeartbeats 1600000 in
theorem again_any (v : Int) (v0 : 0 ≤ v) (v1 : v < 4294967296) (w : World) : Calls Try.prog 5 #[.int .u32 v] w fun e w' => e = .returned (.bool true) ∧ Below w.heap.size w w' := by
  by_cases hc : rv.decE v = 0
  · obtain ⟨k, k1, k2, rd, rs1, rs2, im, hd, hc0, he⟩ := rv.dec_yes v hc
    have HD := bl.hid (fun w => decode_any v v0 v1 w)
    rw [hc, hd] at HD
    have HE := bl.hid (fun w => encode_any k rd rs1 rs2 im w)
    rw [he, hc0] at HE
    have HC := bl.hid (fun w => chk_at _ _ _ _ _ _ hc0 w)
    have HN := bl.hid (fun w => name_any k w)
    have hnm := rv.name_some k k2 k1
    have hrow : rv.rowI k = rv.row k := by have : rv.is k = true := decide_eq_true (by omega); simp [rv.rowI, this]
    rw [hrow] at HN
    obtain ⟨nm, hn⟩ : ∃ nm, (rv.row k).name = nm := ⟨_, rfl⟩
    rw [hn] at HN hnm
    have hne : nm.toList.isEmpty = false := by cases hq : nm.toList with | nil => exact absurd hq hnm | cons a b => rfl
    clear hc hd hc0 he hnm hrow hn
    go_enter Try.func5, Try.ntmps5
    go_wp2_with fail
    refine (awake_any _).mono ?_
    rintro e w1 ⟨rfl, hb⟩
    have hsz1 := hb.size
    have HB1 := bl.hid (kt.below_call (Below.refl _ _) hb)
    clear hb
    go_wp2_with fail
    refine (HD.out _).mono ?_
    rintro e w2 ⟨rfl, hb⟩
    have hsz2 := hb.size
    have HB2 := bl.hid (kt.below_call HB1.out hb)
    clear hb
    go_wp2_with fail
    refine (HE.out _).mono ?_
    rintro e w3 ⟨rfl, hb⟩
    have hsz3 := hb.size
    rw [World.size_alloc] at hsz3
    have x_3 := bl.hid ((hb.block _ (by rw [World.size_alloc]; omega)).trans ((heap_alloc_new _ _)))
    have kx_3 : w2.heap.size < w3.heap.size := by omega
    have HB3 := bl.hid (kt.below_call (kt.below_more' HB2.out _) hb)
    clear hb
    obtain ⟨c0, c1, c2, c3, c4⟩ := RvAt.of_box x_3.out
    go_wp2_with fail
    refine (HC.out _).mono ?_
    rintro e w4 ⟨rfl, hb⟩
    have hsz4 := hb.size
    have x_4 := bl.hid ((hb.block _ (by omega)).trans x_3.out)
    have kx_4 : w2.heap.size < w4.heap.size := by omega
    have HB4 := bl.hid (kt.below_call HB3.out hb)
    clear hb x_3
    clear c0 c1 c2 c3 c4
    obtain ⟨c0, c1, c2, c3, c4⟩ := RvAt.of_box x_4.out
    go_wp2_with fail
    refine (HN.out _).mono ?_
    rintro e w5 ⟨rfl, hb⟩
    have hsz5 := hb.size
    have x_5 := bl.hid ((hb.block _ (by omega)).trans x_4.out)
    have kx_5 : w2.heap.size < w5.heap.size := by omega
    have HB5 := bl.hid (kt.below_call HB4.out hb)
    clear hb x_4
    clear c0 c1 c2 c3 c4
    go_wp2
    go_ret
    exact ⟨rfl, HB5.out⟩
  · rcases rv.opOf_hits v with ⟨ha, -⟩ | ⟨ha, hb, -⟩
    · obtain ⟨he, hd⟩ := rv.dec_none v ha
      have HD := bl.hid (fun w => decode_any v v0 v1 w)
      rw [he, hd] at HD
      clear hc ha he hd
      go_enter Try.func5, Try.ntmps5
      go_wp2_with fail
      refine (awake_any _).mono ?_
      rintro e w1 ⟨rfl, hb⟩
      have hsz1 := hb.size
      have HB1 := bl.hid (kt.below_call (Below.refl _ _) hb)
      clear hb
      go_wp2_with fail
      refine (HD.out _).mono ?_
      rintro e w2 ⟨rfl, hb⟩
      have hsz2 := hb.size
      have HB2 := bl.hid (kt.below_call HB1.out hb)
      clear hb
      go_wp2
      go_ret
      exact ⟨rfl, (kt.below_more' HB2.out _)⟩
    · exact absurd (by unfold rv.decE; rw [if_pos hb]) hc
end Go.Proofs.Ytbfoooplhpikjaa
