/- awake: the chapter's examples. -/
import Derived.Test.YtjjkocklpcdbkaaGreatStSix
namespace Go.Proofs.YtjjkocklpcdbkaaGreat
open Go.RowKit
set_option linter.unusedVariables false
set_option maxRecDepth 100000
theorem run2_any (w : World) (P : st.Pl) (hn : P.n = 6) (h : IsMach w P (st.codeSix 2) (st.S0 st.l64)) : Calls Tryz.prog 12 #[.pointer (some ⟨P.p, 0, none⟩), .int .i64 4] w fun e w' => e = .returned (.tuple #[.int .i64 0, .int .i64 4]) ∧ IsMach w' P (st.codeSix 2) st.run2.2.2 ∧ But2 P.p P.g w w' := by
  have := run_any w P _ _ 4 h (by decide)
  have hi := st.run2_is
  simp only [Prod.mk.injEq] at hi
  rw [hn, show st.runS (st.codeSix 2) 6 (st.S0 st.l64) (4 : Int).toNat = st.run2 from rfl] at this
  refine this.mono ?_
  rintro e w' ⟨h1, h2, h3⟩
  rw [hi.1, hi.2.1] at h1
  exact ⟨h1, h2, h3⟩
set_option maxHeartbeats 3200000 in
theorem awake_any (w : World) : Calls Tryz.prog 6 #[] w fun e w' => e = .returned (.bool true) ∧ Below w.heap.size w w' := by
  go_enter Tryz.func6, Tryz.ntmps6
  go_wp2_with fail
  refine (machine_any 2 (by decide) w).mono ?_
  rintro e w1 ⟨P, hn, rfl, hm, hb, hp, hg⟩
  have HB1 := bl.hid hb
  have s1 := hb.size
  have HN := bl.hid hn
  have HR := bl.hid (run2_any w1 P hn hm)
  have lp := hm.lt
  clear hm hb hn
  go_wp2_with fail
  refine HR.out.mono ?_
  rintro e w2 ⟨rfl, hm, hb⟩
  have HB2 : Hid (Below w.heap.size w w2) := bl.hid (hb.below HB1.out hp hg s1)
  have s2 := HB2.out.size
  have hi := st.run2_is
  simp only [Prod.mk.injEq] at hi
  obtain ⟨-, -, i1, i2, i3, i4, i5⟩ := hi
  obtain ⟨S, hS⟩ : ∃ S, st.run2.2.2 = S := ⟨_, rfl⟩
  rw [hS] at hm i1 i2 i3 i4 i5
  have HL := bl.hid (load_any P.mp P.g 20 1 S.l w2 hm.mem (by decide) (by decide))
  rw [i1, i2] at HL
  have HM2 := bl.hid hm
  clear hm hb HR hS i1 i2
  go_wp2_with fail
  refine HL.out.mono ?_
  rintro e w3 ⟨rfl, hb⟩
  have HB3 : Hid (Below w.heap.size w w3) := bl.hid (HB2.out.trans (hb.mono s2))
  have s3 := HB3.out.size
  have HM3 := bl.hid (HM2.out.keep hb)
  have HReg := bl.hid (reg_any w3 P _ S 3 HM3.out (by decide))
  rw [i3] at HReg
  clear hb HL i3
  go_wp2_with fail
  refine HReg.out.mono ?_
  rintro e w4 ⟨rfl, m, rfl⟩
  have HM4 := bl.hid (HM3.out.drewN m)
  have HStep := bl.hid (step_any _ P _ S HM4.out)
  rw [HN.out, i4] at HStep
  clear HReg i4
  go_wp2_with fail
  refine HStep.out.mono ?_
  rintro e w5 ⟨rfl, hm, hb⟩
  have HB5 : Hid (Below w.heap.size w w5) := bl.hid (hb.below (HB3.out.drewN' m) hp hg s3)
  have HPl := bl.hid (place_any w5 P _ _ hm)
  rw [i5] at HPl
  clear hm hb HStep i5 HM4 HM3 HM2
  go_wp2_with fail
  refine HPl.out.mono ?_
  rintro e w6 ⟨rfl, rfl⟩
  go_wp2
  go_ret
  exact ⟨rfl, HB5.out⟩
end Go.Proofs.YtjjkocklpcdbkaaGreat
