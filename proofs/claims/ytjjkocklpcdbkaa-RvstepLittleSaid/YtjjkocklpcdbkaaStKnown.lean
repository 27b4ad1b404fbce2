/- awake and RvstepKnown: the chapter's examples. -/
import Derived.Test.YtjjkocklpcdbkaaStSix
namespace Go.Proofs.Ytjjkocklpcdbkaa
open Go.RowKit
set_option linter.unusedVariables false
set_option maxRecDepth 100000
theorem run2_any (w : World) (P : st.Pl) (hn : P.n = 6) (h : IsMach w P (st.codeSix 2) (st.S0 st.l64)) : Calls Try.prog 7 #[.pointer (some ⟨P.p, 0, none⟩), .int .i64 4] w fun e w' => e = .returned (.tuple #[.int .i64 0, .int .i64 4]) ∧ IsMach w' P (st.codeSix 2) st.run2.2.2 ∧ But2 P.p P.g w w' := by
  have := run_any w P _ _ 4 h (by decide)
  have hi := st.run2_is
  simp only [Prod.mk.injEq] at hi
  rw [hn, show st.runS (st.codeSix 2) 6 (st.S0 st.l64) (4 : Int).toNat = st.run2 from rfl] at this
  refine this.mono ?_
  rintro e w' ⟨h1, h2, h3⟩
  rw [hi.1, hi.2.1] at h1
  exact ⟨h1, h2, h3⟩
set_option maxHeartbeats 3200000 in
theorem awake_any (w : World) : Calls Try.prog 12 #[] w fun e w' => e = .returned (.bool true) ∧ Below w.heap.size w w' := by
  go_enter Try.func12, Try.ntmps12
  go_wp2_with fail
  refine (machine_any 2 (by decide) w).mono ?_
  rintro e w1 ⟨P, hn, rfl, hm, hb, hp, hg⟩
  have HB1 := bl.hid hb
  have s1 := hb.size
  have HN := bl.hid hn
  have HR := bl.hid (run2_any w1 P hn hm)
  have lp := hm.lt
  clear hm hb hn
  go_wp2_with fail
  refine HR.out.mono ?_
  rintro e w2 ⟨rfl, hm, hb⟩
  have HB2 : Hid (Below w.heap.size w w2) := bl.hid (hb.below HB1.out hp hg s1)
  have s2 := HB2.out.size
  have hi := st.run2_is
  simp only [Prod.mk.injEq] at hi
  obtain ⟨-, -, i1, i2, i3, i4, i5⟩ := hi
  obtain ⟨S, hS⟩ : ∃ S, st.run2.2.2 = S := ⟨_, rfl⟩
  rw [hS] at hm i1 i2 i3 i4 i5
  have HL := bl.hid (load_any P.mp P.g 20 1 S.l w2 hm.mem (by decide) (by decide))
  rw [i1, i2] at HL
  have HM2 := bl.hid hm
  clear hm hb HR hS i1 i2
  go_wp2_with fail
  refine HL.out.mono ?_
  rintro e w3 ⟨rfl, hb⟩
  have HB3 : Hid (Below w.heap.size w w3) := bl.hid (HB2.out.trans (hb.mono s2))
  have s3 := HB3.out.size
  have HM3 := bl.hid (HM2.out.keep hb)
  have HReg := bl.hid (reg_any w3 P _ S 3 HM3.out (by decide))
  rw [i3] at HReg
  clear hb HL i3
  go_wp2_with fail
  refine HReg.out.mono ?_
  rintro e w4 ⟨rfl, m, rfl⟩
  have HM4 := bl.hid (HM3.out.drewN m)
  have HStep := bl.hid (step_any _ P _ S HM4.out)
  rw [HN.out, i4] at HStep
  clear HReg i4
  go_wp2_with fail
  refine HStep.out.mono ?_
  rintro e w5 ⟨rfl, hm, hb⟩
  have HB5 : Hid (Below w.heap.size w w5) := bl.hid (hb.below (HB3.out.drewN' m) hp hg s3)
  have HPl := bl.hid (place_any w5 P _ _ hm)
  rw [i5] at HPl
  clear hm hb HStep i5 HM4 HM3 HM2
  go_wp2_with fail
  refine HPl.out.mono ?_
  rintro e w6 ⟨rfl, rfl⟩
  go_wp2
  go_ret
  exact ⟨rfl, HB5.out⟩
theorem run4_any (w : World) (P : st.Pl) (hn : P.n = 6) (h : IsMach w P (st.codeSix 4) (st.S0 st.l64)) : Calls Try.prog 7 #[.pointer (some ⟨P.p, 0, none⟩), .int .i64 3] w fun e w' => e = .returned (.tuple #[.int .i64 5, .int .i64 2]) ∧ IsMach w' P (st.codeSix 4) st.run4.2.2 ∧ But2 P.p P.g w w' := by
  have := run_any w P _ _ 3 h (by decide)
  have hi := st.run4_is
  simp only [Prod.mk.injEq] at hi
  rw [hn, show st.runS (st.codeSix 4) 6 (st.S0 st.l64) (3 : Int).toNat = st.run4 from rfl] at this
  refine this.mono ?_
  rintro e w' ⟨h1, h2, h3⟩
  rw [hi.1, hi.2.1] at h1
  exact ⟨h1, h2, h3⟩
theorem run0_any (w : World) (P : st.Pl) (code : Nat → st.Told) (s : st.S) (h : IsMach w P code s) : Calls Try.prog 7 #[.pointer (some ⟨P.p, 0, none⟩), .int .i64 0] w fun e w' => e = .returned (.tuple #[.int .i64 0, .int .i64 0]) ∧ But2 P.p P.g w w' := by
  have := run_any w P code s 0 h (by decide)
  refine this.mono ?_
  rintro e w' ⟨h1, h2, h3⟩
  exact ⟨h1, h3⟩
set_option maxHeartbeats 3200000 in
theorem known_any (w : World) : Calls Try.prog 3 #[] w fun e w' => e = .returned (.bool true) ∧ Below w.heap.size w w' := by
  go_enter Try.func3, Try.ntmps3
  go_wp2_with fail
  refine (machine_any 4 (by decide) w).mono ?_
  rintro e w1 ⟨P, hn, rfl, hm, hb, hp, hg⟩
  have HB1 := bl.hid hb
  have s1 := hb.size
  have HN := bl.hid hn
  have HR := bl.hid (run4_any w1 P hn hm)
  have lp := hm.lt
  clear hm hb hn
  go_wp2_with fail
  refine HR.out.mono ?_
  rintro e w2 ⟨rfl, hm, hb⟩
  have HB2 : Hid (Below w.heap.size w w2) := bl.hid (hb.below HB1.out hp hg s1)
  have s2 := HB2.out.size
  have hi := st.run4_is
  simp only [Prod.mk.injEq] at hi
  obtain ⟨-, -, i1, i2, i3, i4, i5⟩ := hi
  unfold st.s4 at i4 i5
  obtain ⟨S, hS⟩ : ∃ S, st.run4.2.2 = S := ⟨_, rfl⟩
  rw [hS] at hm i1 i2 i3 i4 i5
  have HM2 := bl.hid hm
  have H1 := bl.hid (reg_any w2 P _ S 1 HM2.out (by decide))
  rw [i1] at H1
  clear hm hb HR hS i1
  go_wp2_with fail
  refine H1.out.mono ?_
  rintro e w3 ⟨rfl, m, rfl⟩
  have HM3 := bl.hid (HM2.out.drewN m)
  have HB3 : Hid (Below w.heap.size w (w2.drewN m)) := bl.hid (HB2.out.drewN' m)
  have H2 := bl.hid (reg_any _ P _ S 2 HM3.out (by decide))
  rw [i2] at H2
  clear H1 i2
  go_wp2_with fail
  refine H2.out.mono ?_
  rintro e w4 ⟨rfl, m2, rfl⟩
  have HM4 := bl.hid (HM3.out.drewN m2)
  have HB4 := bl.hid (HB3.out.drewN' m2)
  obtain ⟨w4, hw4⟩ : ∃ w4, (w2.drewN m).drewN m2 = w4 := ⟨_, rfl⟩
  rw [hw4] at HM4 HB4 ⊢
  have s4 := HB4.out.size
  have H3 := bl.hid (mset_any w4 P _ S 0 7 HM4.out (by unfold st.isU; omega))
  rw [show st.setE 0 = 0 from rfl] at H3
  clear hw4 HM3 HB3 H2 HM2
  go_wp2_with fail
  refine H3.out.mono ?_
  rintro e w5 ⟨rfl, hm, hb⟩
  have HM5 := bl.hid hm
  have HB5 : Hid (Below w.heap.size w w5) := bl.hid (hb.below HB4.out hp hg s4)
  have H4 := bl.hid (reg_any w5 P _ _ 0 HM5.out (by decide))
  rw [i3] at H4
  clear hm hb HM4 HB4 H3 i3
  go_wp2_with fail
  refine H4.out.mono ?_
  rintro e w6 ⟨rfl, m3, rfl⟩
  have HM6 := bl.hid (HM5.out.drewN m3)
  have HB6 := bl.hid (HB5.out.drewN' m3)
  have s6 := HB6.out.size
  have H5 := bl.hid (mset_any _ P _ _ 32 0 HM6.out (by unfold st.isU; omega))
  rw [show st.setE 32 = 2 from rfl] at H5
  clear H4 HM5 HB5
  go_wp2_with fail
  refine H5.out.mono ?_
  rintro e w7 ⟨rfl, hm, hb⟩
  have HM7 := bl.hid hm
  have HB7 : Hid (Below w.heap.size w w7) := bl.hid (hb.below HB6.out hp hg s6)
  have s7 := HB7.out.size
  have H6 := bl.hid (mjump_any w7 P _ _ 2 HM7.out (by unfold st.isU; omega))
  clear hm hb H5 HM6 HB6
  go_wp2_with fail
  refine H6.out.mono ?_
  rintro e w8 ⟨rfl, hm, hb⟩
  have HM8 := bl.hid hm
  have HB8 : Hid (Below w.heap.size w w8) := bl.hid (hb.below HB7.out hp hg s7)
  have s8 := HB8.out.size
  have H7 := bl.hid (step_any w8 P _ _ HM8.out)
  rw [HN.out, i4] at H7
  clear hm hb H6 HM7 HB7 i4
  go_wp2_with fail
  refine H7.out.mono ?_
  rintro e w9 ⟨rfl, hm, hb⟩
  have HM9 := bl.hid hm
  have HB9 : Hid (Below w.heap.size w w9) := bl.hid (hb.below HB8.out hp hg s8)
  have s9 := HB9.out.size
  have H8 := bl.hid (mjump_any w9 P _ _ 4 HM9.out (by unfold st.isU; omega))
  clear hm hb H7 HM8 HB8
  go_wp2_with fail
  refine H8.out.mono ?_
  rintro e wa ⟨rfl, hm, hb⟩
  have HMa := bl.hid hm
  have HBa : Hid (Below w.heap.size w wa) := bl.hid (hb.below HB9.out hp hg s9)
  have sa := HBa.out.size
  have H9 := bl.hid (step_any wa P _ _ HMa.out)
  rw [HN.out, i5] at H9
  clear hm hb H8 HM9 HB9 i5
  go_wp2_with fail
  refine H9.out.mono ?_
  rintro e wb ⟨rfl, hm, hb⟩
  have HBb : Hid (Below w.heap.size w wb) := bl.hid (hb.below HBa.out hp hg sa)
  have sb := HBb.out.size
  have HA := bl.hid (run0_any wb P _ _ hm)
  clear hm hb H9 HMa HBa
  go_wp2_with fail
  refine HA.out.mono ?_
  rintro e wc ⟨rfl, hb⟩
  have HBc : Hid (Below w.heap.size w wc) := bl.hid (hb.below HBb.out hp hg sb)
  have sc := HBc.out.size
  clear hb HA HBb
  go_wp2_with fail
  refine (awake_any wc).mono ?_
  rintro e wd ⟨rfl, hb⟩
  have HBd : Hid (Below w.heap.size w wd) := bl.hid (HBc.out.trans (hb.mono sc))
  clear hb HBc
  go_wp2
  go_ret
  exact ⟨rfl, HBd.out⟩
end Go.Proofs.Ytjjkocklpcdbkaa
