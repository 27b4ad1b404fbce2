/- RvstepRuns, walked. -/
import Derived.Test.YtjjkocklpcdbkaaGreatRsSteps
namespace Go.Proofs.YtjjkocklpcdbkaaGreat
open Go.RowKit
set_option linter.unusedVariables false
set_option maxRecDepth 100000
set_option maxHeartbeats 6400000 in
theorem runs_walk (x : kt.Start) (first second n v at' : Int) (w : World) (hok : kt.StartOk w x) (hf : (Lit.int .i64 first).wf = true) (hf2 : (Lit.int .i64 second).wf = true) (hn : (Lit.int .i64 n).wf = true) (hv : (Lit.int .u64 v).wf = true) (hat' : (Lit.int .u64 at').wf = true) :
    Calls Tryz.prog 4 #[.agg x.cells, .int .i64 first, .int .i64 second, .int .i64 n, .int .u64 v, .int .u64 at'] w fun e w' => e = .returned (.bool true) ∧ Below w.heap.size w w' := by
  obtain ⟨f0, f1⟩ := bl.wf_i64 hf
  obtain ⟨g0, g1⟩ := bl.wf_i64 hf2
  have HV : Hid (st.isU v) := bl.hid (bl.wf_u64 hv)
  have HAt : Hid (st.isU at') := bl.hid (bl.wf_u64 hat')
  clear hf hf2 hn hv hat'
  have hb0 : Below w.heap.size w (w.alloc (.cells x.cells 27)) := (Below.refl _ _).alloc (Nat.le_refl _) _
  have HOk : Hid (∀ w1, Below w.heap.size w w1 → kt.StartOk w1 x) := bl.hid fun w1 hb => hok.keep hb
  have hx0 := heap_alloc_new w (.cells x.cells 27)
  obtain ⟨w0, hw0⟩ : ∃ w0, w.alloc (.cells x.cells 27) = w0 := ⟨_, rfl⟩
  have hs0 : w0.heap.size = w.heap.size + 1 := by rw [← hw0]; exact World.size_alloc _ _
  rw [hw0] at hb0 hx0
  unfold kt.Start.cells at hx0 hw0
  have HX : Hid (∀ w1, Below (w.heap.size + 1) w0 w1 → w1.cell? ⟨w.heap.size, 0, none⟩ = some (.slice x.ca x.cn x.cc) ∧ w1.cell? ⟨w.heap.size, 1, none⟩ = some (.slice x.ra x.rn x.rc) ∧ w1.cell? ⟨w.heap.size, 2, none⟩ = some (.bool x.far) ∧ w1.cell? ⟨w.heap.size, 3, none⟩ = some (.int .u64 x.at') ∧ w1.cell? ⟨w.heap.size, 4, none⟩ = some (.slice x.ba x.bn x.bc)) := bl.hid (fun w1 hb => by
    have h := (hb.block w.heap.size (by omega)).trans hx0
    exact ⟨(cell_of_row _ _ _ _ _ _ h).trans rfl, (cell_of_row _ _ _ _ _ _ h).trans rfl, (cell_of_row _ _ _ _ _ _ h).trans rfl, (cell_of_row _ _ _ _ _ _ h).trans rfl, (cell_of_row _ _ _ _ _ _ h).trans rfl⟩)
  have HW : Hid (∀ w1, Below (w.heap.size + 1) w0 w1 → Below w.heap.size w w1) := bl.hid (fun w1 hb => hb0.trans (hb.mono (by omega)))
  have HLo := bl.hid (long_any x w0)
  have HBe := bl.hid (fun (hn : x.cn ≤ 60 ∧ x.rn ≤ 40 ∧ x.bn ≤ 200) w1 (hb : Below (w.heap.size + 1) w0 w1) => begun_any x w1 (HOk.out _ (HW.out _ hb)) hn)
  have HNo : Hid (st.longS x = false → x.cn ≤ 60 ∧ x.rn ≤ 40 ∧ x.bn ≤ 200) := bl.hid (st.long_no x)
  have HPk := bl.hid (fun w => pick_val first 102 w (by decide) (by decide) f0 f1)
  have hpk := st.pick_bd first 102 (by decide)
  obtain ⟨pk, hpe⟩ : ∃ pk, st.pickV first 102 = pk := ⟨_, rfl⟩
  rw [hpe] at HPk hpk
  have HPl := bl.hid (fun w => pick_val second 102 w (by decide) (by decide) g0 g1)
  have hpl := st.pick_bd second 102 (by decide)
  obtain ⟨pl2, hpe2⟩ : ∃ pl2, st.pickV second 102 = pl2 := ⟨_, rfl⟩
  rw [hpe2] at HPl hpl
  have hwk : IntKind.i64.wrap (pk - 1) = pk - 1 := by rw [IntKind.wrap_i64]; omega
  have hwl : IntKind.i64.wrap (pl2 - 1) = pl2 - 1 := by rw [IntKind.wrap_i64]; omega
  obtain ⟨L, hL⟩ : ∃ L, st.longS x = L := ⟨_, rfl⟩
  rw [hL] at HLo HNo
  obtain ⟨X0, X1, X2, X3, X4⟩ := HX.out w0 (Below.refl _ _)
  unfold kt.Start.cells at HLo HBe ⊢
  clear hok hb0 hx0 hL HOk hpe hpe2
  go_enter Tryz.func4, Tryz.ntmps4
  go_wp2_with fail
  clear hw0
  refine HLo.out.mono ?_
  rintro e w1 ⟨rfl, hb⟩
  rw [hs0] at hb
  have HB1 := bl.hid hb
  have s1 := hb.size
  clear hb X0 X1 X2 X3 X4 HLo
  cases L with
  | true =>
    have HA := bl.hid (awake_any w1)
    go_wp2_with fail
    refine HA.out.mono ?_
    rintro e w2 ⟨rfl, hb⟩
    have HE := bl.hid (HW.out _ (HB1.out.trans (hb.mono (by omega))))
    clear hb
    go_wp2
    go_ret
    exact ⟨rfl, HE.out⟩
  | false =>
    obtain ⟨x0, x1, x2, x3, x4⟩ := HX.out _ HB1.out
    have HBg := bl.hid (HBe.out (HNo.out rfl) w1 HB1.out)
    clear HBe HNo
    go_wp2_with fail
    refine HBg.out.mono ?_
    rintro e w2 ⟨P, P', pb, rfl, hat, hp⟩
    have HB2 : Hid (Below (w.heap.size + 1) w0 w2) := bl.hid (HB1.out.trans (hat.below.mono (by omega)))
    have HC := bl.hid (pair_calls (x := x) (pb := pb) (f := x.cf) HB1.out (by omega) hat)
    obtain ⟨code, hcode⟩ : ∃ code, (fun k => st.toldOf (x.cf k)) = code := ⟨_, rfl⟩
    rw [hcode] at hp HC
    have HP := bl.hid hp
    have HS128 := bl.hid (st.begS_len x)
    obtain ⟨s, hs⟩ : ∃ s, st.begS x = s := ⟨_, rfl⟩
    rw [hs] at HP HS128
    clear hat hp hcode hs x0 x1 x2 x3 x4 HBg
    go_wp2_with fail
    refine (HPk.out _).mono ?_
    rintro e w' ⟨rfl, hw⟩
    subst w'
    go_wp2_with fail
    refine (HPl.out _).mono ?_
    rintro e w' ⟨rfl, hw⟩
    subst w'
    have xC := HP.out.xC
    have wC := HP.out.wC
    have HR1 := bl.hid (HC.out.run w2 s s (pk - 1) (by omega) (by omega) HP.out HB2.out)
    have HR2 := bl.hid (fun w1 s1 h1 h2 => HC.out.rrun w1 s1 s (pk - 1) (by omega) (by omega) h1 h2)
    have hl1 := st.runS_len code P.n s (pk - 1).toNat
    rw [HS128.out] at hl1
    obtain ⟨r, hr⟩ : ∃ r, st.runS code P.n s (pk - 1).toNat = r := ⟨_, rfl⟩
    rw [hr] at HR1 HR2 hl1
    obtain ⟨E, M, s1⟩ := r
    dsimp only at HR1 HR2 hl1
    have HL1 := bl.hid hl1
    clear hl1 hr
    go_wp2_with fail
    refine HR1.out.mono ?_
    rintro e w3 ⟨rfl, hp, hb⟩
    have xC3 := hp.xC
    have wC3 := hp.wC
    have HR2' := bl.hid (HR2.out w3 s1 hp hb)
    clear hp hb xC wC
    go_wp2_with fail
    refine HR2'.out.mono ?_
    rintro e w4 ⟨rfl, hp, hb⟩
    have xC := hp.xC
    have wC := hp.wC
    have hd : Below w4.heap.size w4 w4.drew := (Below.refl _ _).drew
    have HA := bl.hid (HC.out.alike w4.drew s1 (hp.keep hd) HL1.out hb.drew)
    have HSe := bl.hid (fun w1 h1 h2 => HC.out.set w1 s1 s1 n v HV.out h1 h2)
    have HSr := bl.hid (fun w1 h1 h2 => HC.out.rset w1 (s1.set n v) s1 n v HV.out h1 h2)
    have hl2 := st.set_len s1 n v
    rw [HL1.out] at hl2
    obtain ⟨s2, hs2⟩ : ∃ s2, s1.set n v = s2 := ⟨_, rfl⟩
    obtain ⟨e2, he2⟩ : ∃ e2, st.setE n = e2 := ⟨_, rfl⟩
    rw [hs2] at HSe HSr hl2
    rw [he2] at HSe HSr
    have HJ := bl.hid (fun w1 h1 h2 => HC.out.jump w1 s2 s2 at' HAt.out h1 h2)
    have HG := bl.hid (fun w1 h1 h2 => HC.out.goes w1 (s2.go at') s2 at' HAt.out h1 h2)
    have hl3 : (s2.go at').l.length = 128 := hl2
    obtain ⟨s3, hs3⟩ : ∃ s3, s2.go at' = s3 := ⟨_, rfl⟩
    rw [hs3] at HJ HG hl3
    have HL3 := bl.hid hl3
    clear hp hb hl2 hl3 hs2 hs3 he2 xC3 wC3 hd
    go_wp2
    go_region_held3 (fun w' => w'.cell? ⟨pb, 0, none⟩ = some (.pointer (some ⟨P.p, 0, none⟩)) ∧ w'.cell? ⟨pb, 1, none⟩ = some (.pointer (some ⟨P'.p, 0, none⟩))) ((first | with_reducible assumption | go_keep))
      ((first
        | (go_at_call 8; with_reducible refine HA.out.mono ?_; rintro e w5 ⟨rfl, hp1, hb1⟩; have xC1 := hp1.xC; have wC1 := hp1.wC; have HP1 := bl.hid hp1; have HB1' := bl.hid hb1; clear hp1 hb1)
        | (go_at_call 14; with_reducible refine (HSe.out _ HP1.out HB1'.out).mono ?_; rintro e w6 ⟨rfl, hp2, hb2⟩; have xC2 := hp2.xC; have wC2 := hp2.wC; have HP2 := bl.hid hp2; have HB2' := bl.hid hb2; clear hp2 hb2)
        | (go_at_call 15; with_reducible refine (HSr.out _ HP2.out HB2'.out).mono ?_; rintro e w7 ⟨rfl, hp3, hb3⟩; have xC3 := hp3.xC; have wC3 := hp3.wC; have HP3 := bl.hid hp3; have HB3' := bl.hid hb3; clear hp3 hb3)
        | (go_at_call 16; with_reducible refine (HJ.out _ HP3.out HB3'.out).mono ?_; rintro e w8 ⟨rfl, hp4, hb4⟩; have xC4 := hp4.xC; have wC4 := hp4.wC; have HP4 := bl.hid hp4; have HB4' := bl.hid hb4; clear hp4 hb4)))
    have pC := HP4.out.r.pcC
    have fr := frozen_of_row w8 P'.p 32 _ _ HP4.out.r.row
    obtain ⟨gp, gb⟩ := HG.out w8 HP4.out HB4'.out
    have HGp := bl.hid (And.intro gp gb)
    clear gp gb xC1 wC1 xC2 wC2 xC3 wC3 xC wC
    go_upto_region 12 with (fail)
    refine kt.forget (fun wz => IsPair wz P P' code x.cf pb s3 s3 ∧ Below (w.heap.size + 1) w0 wz) HGp.out ?_
    rintro wz ⟨hp, hb⟩
    have xC := hp.xC
    have wC := hp.wC
    have HR3 := bl.hid (HC.out.run wz s3 s3 (pl2 - 1) (by omega) (by omega) hp hb)
    have HR4 := bl.hid (fun w1 s4 h1 h2 => HC.out.rrun w1 s4 s3 (pl2 - 1) (by omega) (by omega) h1 h2)
    have hl1 := st.runS_len code P.n s3 (pl2 - 1).toNat
    rw [HL3.out] at hl1
    obtain ⟨r, hr⟩ : ∃ r, st.runS code P.n s3 (pl2 - 1).toNat = r := ⟨_, rfl⟩
    rw [hr] at HR3 HR4 hl1
    obtain ⟨E2, M2, s4⟩ := r
    dsimp only at HR3 HR4 hl1
    have HL4 := bl.hid hl1
    clear hl1 hr hp hb pC fr xC4 wC4
    go_wp2_with fail
    refine HR3.out.mono ?_
    rintro e w9 ⟨rfl, hp, hb⟩
    have xC9 := hp.xC
    have wC9 := hp.wC
    have HR4' := bl.hid (HR4.out w9 s4 hp hb)
    clear hp hb xC wC
    go_wp2_with fail
    refine HR4'.out.mono ?_
    rintro e w10 ⟨rfl, hp, hb⟩
    have HA2 := bl.hid (HC.out.alike w10 s4 hp HL4.out hb)
    clear hp hb xC9 wC9
    go_wp2_with fail
    refine HA2.out.mono ?_
    rintro e w11 ⟨rfl, hp, hb⟩
    have HB11 := bl.hid hb
    have s11 := hb.size
    have HAw := bl.hid (awake_any w11)
    clear hp hb
    go_wp2_with fail
    refine HAw.out.mono ?_
    rintro e w12 ⟨rfl, hb⟩
    have HE := bl.hid (HW.out _ (HB11.out.trans (hb.mono (by omega))))
    clear hb
    go_wp2
    go_ret
    exact ⟨rfl, HE.out⟩
end Go.Proofs.YtjjkocklpcdbkaaGreat
