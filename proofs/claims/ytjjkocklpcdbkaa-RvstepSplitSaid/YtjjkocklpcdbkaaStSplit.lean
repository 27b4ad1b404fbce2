/- RvstepSplit, walked (printed by gen2.py). -/
import Derived.Test.YtjjkocklpcdbkaaStRegs
import Derived.Deep.QuietTactic
import Derived.BigQuiet
namespace Go.Proofs.Ytjjkocklpcdbkaa
open Go.RowKit
set_option linter.unusedVariables false
set_option maxRecDepth 100000
set_option maxHeartbeats 12800000 in
theorem split_walk (x : kt.Start) (first second : Int) (w : World) (hok : kt.StartOk w x) (hf : (Lit.int .i64 first).wf = true) (hs : (Lit.int .i64 second).wf = true) :
    Calls Try.prog 4 #[.agg x.cells, .int .i64 first, .int .i64 second] w fun e w' => e = .returned (.bool true) ∧ Below w.heap.size w w' := by
  obtain ⟨f0, f1⟩ := bl.wf_i64 hf
  obtain ⟨g0, g1⟩ := bl.wf_i64 hs
  clear hf hs
  have hb0 : Below w.heap.size w (w.alloc (.cells x.cells 39)) := (Below.refl _ _).alloc (Nat.le_refl _) _
  have HOk : Hid (∀ w1, Below w.heap.size w w1 → kt.StartOk w1 x) := bl.hid fun w1 hb => hok.keep hb
  have hx0 := heap_alloc_new w (.cells x.cells 39)
  obtain ⟨w0, hw0⟩ : ∃ w0, w.alloc (.cells x.cells 39) = w0 := ⟨_, rfl⟩
  have hs0 : w0.heap.size = w.heap.size + 1 := by rw [← hw0]; exact World.size_alloc _ _
  rw [hw0] at hb0 hx0
  unfold kt.Start.cells at hx0 hw0
  have HX : Hid (∀ w1, Below (w.heap.size + 1) w0 w1 → w1.cell? ⟨w.heap.size, 0, none⟩ = some (.slice x.ca x.cn x.cc) ∧ w1.cell? ⟨w.heap.size, 1, none⟩ = some (.slice x.ra x.rn x.rc) ∧ w1.cell? ⟨w.heap.size, 2, none⟩ = some (.bool x.far) ∧ w1.cell? ⟨w.heap.size, 3, none⟩ = some (.int .u64 x.at') ∧ w1.cell? ⟨w.heap.size, 4, none⟩ = some (.slice x.ba x.bn x.bc)) := bl.hid (fun w1 hb => by
    have h := (hb.block w.heap.size (by omega)).trans hx0
    exact ⟨(cell_of_row _ _ _ _ _ _ h).trans rfl, (cell_of_row _ _ _ _ _ _ h).trans rfl, (cell_of_row _ _ _ _ _ _ h).trans rfl, (cell_of_row _ _ _ _ _ _ h).trans rfl, (cell_of_row _ _ _ _ _ _ h).trans rfl⟩)
  have HW : Hid (∀ w1, Below (w.heap.size + 1) w0 w1 → Below w.heap.size w w1) := bl.hid (fun w1 hb => hb0.trans (hb.mono (by omega)))
  have HW0 := bl.hid hw0
  have HLo := bl.hid (fun w1 => long_any x w1)
  have HBe := bl.hid (fun (hn : x.cn ≤ 60 ∧ x.rn ≤ 40 ∧ x.bn ≤ 200) w1 (hb : Below (w.heap.size + 1) w0 w1) => begin_any x w1 (HOk.out _ (HW.out _ hb)) hn)
  have HNo : Hid (st.longS x = false → x.cn ≤ 60 ∧ x.rn ≤ 40 ∧ x.bn ≤ 200) := bl.hid (st.long_no x)
  obtain ⟨L, hL⟩ : ∃ L, st.longS x = L := ⟨_, rfl⟩
  rw [hL] at HLo HNo
  unfold kt.Start.cells at HLo HBe ⊢
  clear hok hb0 hx0 hw0 hL HOk
  go_enter Try.func4, Try.ntmps4
  go_upto_region 1 with (fail)
  rw [HW0.out]
  go_wp2_with fail
  refine (awake_any w0).mono ?_
  rintro e w1 ⟨rfl, hb⟩
  rw [hs0] at hb
  have HB1 := bl.hid hb
  obtain ⟨x0, x1, x2, x3, x4⟩ := HX.out _ HB1.out
  have s1 := HB1.out.size
  clear hb
  go_wp2_with fail
  refine (HLo.out w1).mono ?_
  rintro e w2 ⟨rfl, hb⟩
  have HB2 : Hid (Below (w.heap.size + 1) w0 w2) := bl.hid (HB1.out.trans (hb.mono (by omega)))
  have s2 := HB2.out.size
  clear hb x0 x1 x2 x3 x4 HLo HB1
  obtain ⟨x0, x1, x2, x3, x4⟩ := HX.out _ HB2.out
  cases L with
  | true =>
    have HE := bl.hid (HW.out _ HB2.out)
    go_wp2
    go_ret
    exact ⟨rfl, HE.out⟩
  | false =>
    have HBg := bl.hid (HBe.out (HNo.out rfl))
    clear HBe HNo
    go_wp2_with fail
    refine (HBg.out w2 HB2.out).mono ?_
    rintro e w3 ⟨P1, hn1, rfl, hm, hb, hp1, hg1⟩
    have HB3 : Hid (Below (w.heap.size + 1) w0 w3) := bl.hid (HB2.out.trans (hb.mono (by omega)))
    have s3 := HB3.out.size
    have HM1 := bl.hid hm
    have lp1 := hm.lt
    have lg1 := hm.mem.lt.2
    have HN1 := bl.hid hn1
    clear hb hm hn1 x0 x1 x2 x3 x4
    obtain ⟨x0, x1, x2, x3, x4⟩ := HX.out _ HB3.out
    go_wp2_with fail
    refine (HBg.out w3 HB3.out).mono ?_
    rintro e w4 ⟨P2, hn2, rfl, hm, hb, hp2, hg2⟩
    have HB4 : Hid (Below (w.heap.size + 1) w0 w4) := bl.hid (HB3.out.trans (hb.mono (by omega)))
    have s4 := HB4.out.size
    have HM2 := bl.hid hm
    have HM1' := bl.hid (HM1.out.keep hb)
    have HN2 := bl.hid hn2
    have hpn : P1.p ≠ P2.p := by omega
    have hgn : P1.g ≠ P2.g := by omega
    have Hne : Hid (P1.p ≠ P2.p ∧ P1.g ≠ P2.g) := bl.hid ⟨hpn, hgn⟩
    clear hb hm hn2 x0 x1 x2 x3 x4 HBg HM1 hpn hgn
    obtain ⟨code, hcode⟩ : ∃ code : Nat → st.Told, (fun k => st.toldOf (x.cf k)) = code := ⟨_, rfl⟩
    obtain ⟨sb, hsb⟩ : ∃ sb, st.begS x = sb := ⟨_, rfl⟩
    rw [hcode, hsb] at HM1' HM2
    clear hcode hsb
    have hpk1 := st.pick_bd first 101 (by decide)
    have hpk2 := st.pick_bd second 101 (by decide)
    have HP1 := bl.hid (fun w1 => pick_val first 101 w1 (by decide) (by decide) f0 f1)
    have HP2 := bl.hid (fun w1 => pick_val second 101 w1 (by decide) (by decide) g0 g1)
    obtain ⟨a, ha⟩ : ∃ a : Nat, st.pickV first 101 = a := ⟨(st.pickV first 101).toNat, by omega⟩
    obtain ⟨b, hb⟩ : ∃ b : Nat, st.pickV second 101 = b := ⟨(st.pickV second 101).toNat, by omega⟩
    rw [ha] at hpk1 HP1
    rw [hb] at hpk2 HP2
    have ha100 : a ≤ 100 := by omega
    have hb100 : b ≤ 100 := by omega
    clear ha hb hpk1 hpk2 f0 f1 g0 g1
    go_wp2_with fail
    refine (HP1.out _).mono ?_
    rintro e wu ⟨rfl, hwu⟩
    subst hwu
    go_wp2_with fail
    refine (HP2.out _).mono ?_
    rintro e wu ⟨rfl, hwu⟩
    subst hwu
    have HR1 := bl.hid (run_any w4 P1 code sb a HM1'.out (by omega))
    rw [HN1.out, Int.toNat_natCast] at HR1
    have hmany := st.runS_many code x.cn sb a
    have HStuck : Hid ((st.runS code x.cn sb a).1 ≠ 0 → st.runS code x.cn sb (a + b) = st.runS code x.cn sb a) := bl.hid (fun h => st.runS_stuck code x.cn sb a h (a + b) (by omega))
    have HAdd : Hid ((st.runS code x.cn sb a).1 = 0 → st.runS code x.cn sb (a + b) = ((st.runS code x.cn (st.runS code x.cn sb a).2.2 b).1, (st.runS code x.cn sb a).2.1 + (st.runS code x.cn (st.runS code x.cn sb a).2.2 b).2.1, (st.runS code x.cn (st.runS code x.cn sb a).2.2 b).2.2)) := bl.hid (fun h => st.runS_add code x.cn sb a h b)
    obtain ⟨r, hr⟩ : ∃ r, st.runS code x.cn sb a = r := ⟨_, rfl⟩
    rw [hr] at HR1 hmany HStuck HAdd
    obtain ⟨how, many, s1'⟩ := r
    dsimp only at hmany HStuck HAdd
    obtain ⟨m0, m1⟩ := hmany
    have HR1' : Hid (Calls Try.prog 7 #[.pointer (some ⟨P1.p, 0, none⟩), .int .i64 a] w4 (RunPost P1 code (how, many, s1') w4)) := bl.hid HR1.out
    clear hr HP1 HP2 HR1
    go_wp2_with fail
    refine HR1'.out.mono ?_
    rintro e w5 ⟨rfl, hm, hb⟩
    dsimp only at hm ⊢
    have HB5 : Hid (Below (w.heap.size + 1) w0 w5) := bl.hid (hb.below HB4.out (by omega) (by omega) (by omega))
    have s5 := HB5.out.size
    have HM25 := bl.hid (HM2.out.other HM1'.out hb Hne.out.1.symm Hne.out.2.symm)
    have HM15 := bl.hid hm
    clear hb hm HR1' HM2 HM1' HB4
    by_cases hh : how = 0
    · subst hh
      have HAd := bl.hid (HAdd.out rfl)
      have HR2 := bl.hid (run_any w5 P1 code s1' b HM15.out (by omega))
      rw [HN1.out, Int.toNat_natCast] at HR2
      have hmany := st.runS_many code x.cn s1' b
      obtain ⟨r, hr⟩ : ∃ r, st.runS code x.cn s1' b = r := ⟨_, rfl⟩
      rw [hr] at HR2 hmany HAd
      obtain ⟨how2, many2, sx⟩ := r
      dsimp only at hmany HAd
      obtain ⟨m2, m3⟩ := hmany
      have HR2' : Hid (Calls Try.prog 7 #[.pointer (some ⟨P1.p, 0, none⟩), .int .i64 b] w5 (RunPost P1 code (how2, many2, sx) w5)) := bl.hid HR2.out
      clear hr HR2 HAdd HStuck
      go_wp2_with fail
      refine HR2'.out.mono ?_
      rintro e w6 ⟨rfl, hm, hb⟩
      dsimp only at hm ⊢
      have HB6 : Hid (Below (w.heap.size + 1) w0 w6) := bl.hid (hb.below HB5.out (by omega) (by omega) (by omega))
      have s6 := HB6.out.size
      have HM26 := bl.hid (HM25.out.other HM15.out hb Hne.out.1.symm Hne.out.2.symm)
      have HM16 := bl.hid hm
      have HR3 := bl.hid (run_any w6 P2 code sb ((a : Int) + b) HM26.out (by omega))
      rw [HN2.out, show ((a : Int) + b).toNat = a + b by omega, HAd.out] at HR3
      clear hb hm HR2' HM25 HM15 HB5 HAd
      go_wp2_with fail
      refine HR3.out.mono ?_
      rintro e wz ⟨rfl, hm, hb⟩
      dsimp only at hm ⊢
      have HWz : Hid (Below (w.heap.size + 1) w0 wz) := bl.hid (hb.below HB6.out (by omega) (by omega) (by omega))
      have sz := HWz.out.size
      have HA := bl.hid (HM16.out.other HM26.out hb Hne.out.1 Hne.out.2)
      have HB := bl.hid hm
      clear hb hm HR3 HM26 HM16 HB6
      have HPa := bl.hid (place_any wz P1 _ sx HA.out)
      have HPb := bl.hid (place_any wz P2 _ sx HB.out)
      have HSm := bl.hid (msame_any P1.mp P1.g P2.mp P2.g sx.l sx.l wz HA.out.mem HB.out.mem)
      rw [decide_eq_true rfl] at HSm
      go_wp2_with fail
      refine HPa.out.mono ?_
      rintro e wu ⟨rfl, hwu⟩
      subst hwu
      go_wp2_with fail
      refine HPb.out.mono ?_
      rintro e wu ⟨rfl, hwu⟩
      subst hwu
      go_wp2_with fail
      refine HSm.out.mono ?_
      rintro e wy ⟨rfl, hb⟩
      have HAy := bl.hid (HA.out.keep hb)
      have HBy := bl.hid (HB.out.keep hb)
      have HWy : Hid (Below (w.heap.size + 1) w0 wy) := bl.hid (HWz.out.trans (hb.mono (by omega)))
      have sy := HWy.out.size
      clear hb HPa HPb HSm
      go_wp2_with fail
      refine (regs_any wy P1 _ sx HAy.out).mono ?_
      rintro e wx ⟨gp, cp, rfl, hp1, hp2, hpc, hb⟩
      have HBx := bl.hid (HBy.out.keep hb)
      have HWx : Hid (Below (w.heap.size + 1) w0 wx) := bl.hid (HWy.out.trans (hb.mono (by omega)))
      have HPc := bl.hid hpc
      have sx' := HWx.out.size
      clear hb hpc
      go_wp2_with fail
      refine (regs_any wx P2 _ sx HBx.out).mono ?_
      rintro e wt ⟨gq, cq, rfl, hq1, hq2, hqc, hb⟩
      have HWt : Hid (Below (w.heap.size + 1) w0 wt) := bl.hid (HWx.out.trans (hb.mono (by omega)))
      have HQc := bl.hid hqc
      have HPd : Hid (∀ i, i < 32 → wt.cell? ⟨gp, i, none⟩ = some (.int .u64 (sx.r i))) := bl.hid (fun i hi => (hb.cell (p := ⟨gp, i, none⟩) hp2).trans (HPc.out i hi))
      have hp3 : gp < wt.heap.size := by have := hb.size; omega
      have st' := HWt.out.size
      clear hb hqc HPc HA HB HAy HBy HBx HWx HWy HWz
      go_wp2
      go_loopw [20] (fun v wr => ∃ k : Nat, k ≤ 32 ∧ v = .int .i64 k ∧ Below wt.heap.size wt wr) (fun v _ => 32 - (intOf v).toNat)
      case atStart => exact ⟨0, by omega, rfl, Below.refl _ _⟩
      case round =>
        obtain ⟨k, hk, rfl, hb⟩ := hrel
        by_cases hlt : k < 32
        · have c1 := (hb.cell (p := ⟨gp, k, none⟩) hp3).trans (HPd.out k hlt)
          have c2 := (hb.cell (p := ⟨gq, k, none⟩) hq2).trans (HQc.out k hlt)
          obtain ⟨E, hE⟩ : ∃ E, sx.r k = E := ⟨_, rfl⟩
          rw [hE] at c1 c2
          have hlt2 : (k : Int) < 32 := by omega
          have HB := bl.hid hb
          clear hb hE
          go_wp2
          go_quiet (fail)
          have HB2 : Hid (Below wt.heap.size wt (wr.drewN nq)) := bl.hid (HB.out.drewN' nq)
          go_wp2
          exact ⟨⟨k + 1, by omega, by go_num, HB2.out⟩, by simp [intOf]; omega⟩
        · obtain rfl : k = 32 := by omega
          have HE : Hid (Below w.heap.size w wr) := bl.hid (HW.out _ (HWt.out.trans (hb.mono (by omega))))
          clear hb
          go_wp2
          go_ret
          exact ⟨rfl, HE.out⟩
    · have HSt := bl.hid (HStuck.out hh)
      have HR3 := bl.hid (run_any w5 P2 code sb ((a : Int) + b) HM25.out (by omega))
      rw [HN2.out, show ((a : Int) + b).toNat = a + b by omega, HSt.out] at HR3
      clear HStuck HAdd HSt
      go_wp2_with fail
      refine HR3.out.mono ?_
      rintro e wz ⟨rfl, hm, hb⟩
      dsimp only at hm ⊢
      have HWz : Hid (Below (w.heap.size + 1) w0 wz) := bl.hid (hb.below HB5.out (by omega) (by omega) (by omega))
      have sz := HWz.out.size
      have HA := bl.hid (HM15.out.other HM25.out hb Hne.out.1 Hne.out.2)
      have HB := bl.hid hm
      obtain ⟨sx, hsx⟩ : ∃ sx, s1' = sx := ⟨_, rfl⟩
      rw [hsx] at HA HB
      clear hb hm HR3 HM25 HM15 HB5 hsx
      have HPa := bl.hid (place_any wz P1 _ sx HA.out)
      have HPb := bl.hid (place_any wz P2 _ sx HB.out)
      have HSm := bl.hid (msame_any P1.mp P1.g P2.mp P2.g sx.l sx.l wz HA.out.mem HB.out.mem)
      rw [decide_eq_true rfl] at HSm
      go_wp2_with fail
      refine HPa.out.mono ?_
      rintro e wu ⟨rfl, hwu⟩
      subst hwu
      go_wp2_with fail
      refine HPb.out.mono ?_
      rintro e wu ⟨rfl, hwu⟩
      subst hwu
      go_wp2_with fail
      refine HSm.out.mono ?_
      rintro e wy ⟨rfl, hb⟩
      have HAy := bl.hid (HA.out.keep hb)
      have HBy := bl.hid (HB.out.keep hb)
      have HWy : Hid (Below (w.heap.size + 1) w0 wy) := bl.hid (HWz.out.trans (hb.mono (by omega)))
      have sy := HWy.out.size
      clear hb HPa HPb HSm
      go_wp2_with fail
      refine (regs_any wy P1 _ sx HAy.out).mono ?_
      rintro e wx ⟨gp, cp, rfl, hp1, hp2, hpc, hb⟩
      have HBx := bl.hid (HBy.out.keep hb)
      have HWx : Hid (Below (w.heap.size + 1) w0 wx) := bl.hid (HWy.out.trans (hb.mono (by omega)))
      have HPc := bl.hid hpc
      have sx' := HWx.out.size
      clear hb hpc
      go_wp2_with fail
      refine (regs_any wx P2 _ sx HBx.out).mono ?_
      rintro e wt ⟨gq, cq, rfl, hq1, hq2, hqc, hb⟩
      have HWt : Hid (Below (w.heap.size + 1) w0 wt) := bl.hid (HWx.out.trans (hb.mono (by omega)))
      have HQc := bl.hid hqc
      have HPd : Hid (∀ i, i < 32 → wt.cell? ⟨gp, i, none⟩ = some (.int .u64 (sx.r i))) := bl.hid (fun i hi => (hb.cell (p := ⟨gp, i, none⟩) hp2).trans (HPc.out i hi))
      have hp3 : gp < wt.heap.size := by have := hb.size; omega
      have st' := HWt.out.size
      clear hb hqc HPc HA HB HAy HBy HBx HWx HWy HWz
      go_wp2
      go_loopw [20] (fun v wr => ∃ k : Nat, k ≤ 32 ∧ v = .int .i64 k ∧ Below wt.heap.size wt wr) (fun v _ => 32 - (intOf v).toNat)
      case atStart => exact ⟨0, by omega, rfl, Below.refl _ _⟩
      case round =>
        obtain ⟨k, hk, rfl, hb⟩ := hrel
        by_cases hlt : k < 32
        · have c1 := (hb.cell (p := ⟨gp, k, none⟩) hp3).trans (HPd.out k hlt)
          have c2 := (hb.cell (p := ⟨gq, k, none⟩) hq2).trans (HQc.out k hlt)
          obtain ⟨E, hE⟩ : ∃ E, sx.r k = E := ⟨_, rfl⟩
          rw [hE] at c1 c2
          have hlt2 : (k : Int) < 32 := by omega
          have HB := bl.hid hb
          clear hb hE
          go_wp2
          go_quiet (fail)
          have HB2 : Hid (Below wt.heap.size wt (wr.drewN nq)) := bl.hid (HB.out.drewN' nq)
          go_wp2
          exact ⟨⟨k + 1, by omega, by go_num, HB2.out⟩, by simp [intOf]; omega⟩
        · obtain rfl : k = 32 := by omega
          have HE : Hid (Below w.heap.size w wr) := bl.hid (HW.out _ (HWt.out.trans (hb.mono (by omega))))
          clear hb
          go_wp2
          go_ret
          exact ⟨rfl, HE.out⟩
end Go.Proofs.Ytjjkocklpcdbkaa
