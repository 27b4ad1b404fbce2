/- RvstepLittle, walked. -/
import Derived.Test.YtjjkocklpcdbkaaStBytes
import Derived.Deep.QuietTactic
import Derived.BigQuiet
namespace Go.Proofs.Ytjjkocklpcdbkaa
open Go.RowKit
set_option linter.unusedVariables false
set_option maxRecDepth 100000
set_option maxHeartbeats 12800000 in
theorem little_walk (x : kt.Start) (steps : Int) (w : World) (hok : kt.StartOk w x) (hf : (Lit.int .i64 steps).wf = true) :
    Calls Try.prog 5 #[.agg x.cells, .int .i64 steps] w fun e w' => e = .returned (.bool true) ∧ Below w.heap.size w w' := by
  obtain ⟨f0, f1⟩ := bl.wf_i64 hf
  clear hf
  have hb0 : Below w.heap.size w (w.alloc (.cells x.cells 39)) := (Below.refl _ _).alloc (Nat.le_refl _) _
  have HOk : Hid (∀ w1, Below w.heap.size w w1 → kt.StartOk w1 x) := bl.hid fun w1 hb => hok.keep hb
  have hx0 := heap_alloc_new w (.cells x.cells 39)
  obtain ⟨w0, hw0⟩ : ∃ w0, w.alloc (.cells x.cells 39) = w0 := ⟨_, rfl⟩
  have hs0 : w0.heap.size = w.heap.size + 1 := by rw [← hw0]; exact World.size_alloc _ _
  rw [hw0] at hb0 hx0
  unfold kt.Start.cells at hx0 hw0
  have HX : Hid (∀ w1, Below (w.heap.size + 1) w0 w1 → w1.cell? ⟨w.heap.size, 0, none⟩ = some (.slice x.ca x.cn x.cc) ∧ w1.cell? ⟨w.heap.size, 1, none⟩ = some (.slice x.ra x.rn x.rc) ∧ w1.cell? ⟨w.heap.size, 2, none⟩ = some (.bool x.far) ∧ w1.cell? ⟨w.heap.size, 3, none⟩ = some (.int .u64 x.at') ∧ w1.cell? ⟨w.heap.size, 4, none⟩ = some (.slice x.ba x.bn x.bc)) := bl.hid (fun w1 hb => by
    have h := (hb.block w.heap.size (by omega)).trans hx0
    exact ⟨(cell_of_row _ _ _ _ _ _ h).trans rfl, (cell_of_row _ _ _ _ _ _ h).trans rfl, (cell_of_row _ _ _ _ _ _ h).trans rfl, (cell_of_row _ _ _ _ _ _ h).trans rfl, (cell_of_row _ _ _ _ _ _ h).trans rfl⟩)
  have HW : Hid (∀ w1, Below (w.heap.size + 1) w0 w1 → Below w.heap.size w w1) := bl.hid (fun w1 hb => hb0.trans (hb.mono (by omega)))
  have HW0 := bl.hid hw0
  have HLo := bl.hid (fun w1 => long_any x w1)
  have HBe := bl.hid (fun (hn : x.cn ≤ 60 ∧ x.rn ≤ 40 ∧ x.bn ≤ 200) w1 (hb : Below (w.heap.size + 1) w0 w1) => begin_any x w1 (HOk.out _ (HW.out _ hb)) hn)
  have HNo : Hid (st.longS x = false → x.cn ≤ 60 ∧ x.rn ≤ 40 ∧ x.bn ≤ 200) := bl.hid (st.long_no x)
  obtain ⟨L, hL⟩ : ∃ L, st.longS x = L := ⟨_, rfl⟩
  rw [hL] at HLo HNo
  unfold kt.Start.cells at HLo HBe ⊢
  clear hok hb0 hx0 hw0 hL HOk
  go_enter Try.func5, Try.ntmps5
  go_upto_region 1 with (fail)
  rw [HW0.out]
  go_wp2_with fail
  refine (known_any w0).mono ?_
  rintro e w1 ⟨rfl, hb⟩
  rw [hs0] at hb
  have HB1 := bl.hid hb
  obtain ⟨x0, x1, x2, x3, x4⟩ := HX.out _ HB1.out
  have s1 := HB1.out.size
  clear hb
  go_wp2_with fail
  refine (HLo.out w1).mono ?_
  rintro e w2 ⟨rfl, hb⟩
  have HB2 : Hid (Below (w.heap.size + 1) w0 w2) := bl.hid (HB1.out.trans (hb.mono (by omega)))
  have s2 := HB2.out.size
  clear hb x0 x1 x2 x3 x4 HLo HB1
  obtain ⟨x0, x1, x2, x3, x4⟩ := HX.out _ HB2.out
  cases L with
  | true =>
    have HE := bl.hid (HW.out _ HB2.out)
    go_wp2
    go_ret
    exact ⟨rfl, HE.out⟩
  | false =>
    have HBg := bl.hid (HBe.out (HNo.out rfl))
    clear HBe HNo
    go_wp2_with fail
    refine (HBg.out w2 HB2.out).mono ?_
    rintro e w3 ⟨P1, hn1, rfl, hm, hb, hp1, hg1⟩
    have HB3 : Hid (Below (w.heap.size + 1) w0 w3) := bl.hid (HB2.out.trans (hb.mono (by omega)))
    have s3 := HB3.out.size
    have HM1 := bl.hid hm
    have lp1 := hm.lt
    have lg1 := hm.mem.lt.2
    have HN1 := bl.hid hn1
    clear hb hm hn1 x0 x1 x2 x3 x4 HBg
    have hlen := st.begS_len x
    obtain ⟨code, hcode⟩ : ∃ code : Nat → st.Told, (fun k => st.toldOf (x.cf k)) = code := ⟨_, rfl⟩
    obtain ⟨sb, hsb⟩ : ∃ sb, st.begS x = sb := ⟨_, rfl⟩
    rw [hcode, hsb] at HM1
    rw [hsb] at hlen
    have hpk1 := st.pick_bd steps 61 (by decide)
    have HP1 := bl.hid (fun w1 => pick_val steps 61 w1 (by decide) (by decide) f0 f1)
    obtain ⟨a, ha⟩ : ∃ a : Nat, st.pickV steps 61 = a := ⟨(st.pickV steps 61).toNat, by omega⟩
    rw [ha] at hpk1 HP1
    have ha60 : a ≤ 60 := by omega
    clear ha hpk1 f0 f1 hcode hsb HX HB2
    go_wp2_with fail
    refine (HP1.out _).mono ?_
    rintro e wu ⟨rfl, hwu⟩
    subst hwu
    go_wp2
    go_loopw [8] (fun v wr => ∃ (k : Nat) (s : st.S), k ≤ 60 ∧ v = .int .i64 k ∧ IsMach wr P1 code s ∧ s.l.length = 128 ∧ Below (w.heap.size + 1) w0 wr) (fun v _ => (intOf v).toNat)
    case atStart => exact ⟨a, sb, ha60, rfl, HM1.out, hlen, HB3.out⟩
    case round =>
      obtain ⟨k, s, hk, rfl, hm, hlen2, hb⟩ := hrel
      have HB := bl.hid hb
      have HM := bl.hid hm
      have sr := hb.size
      clear hm hb HM1 HP1 hlen
      by_cases hk0 : k = 0
      · subst hk0
        have HE := bl.hid (HW.out _ HB.out)
        go_wp2
        go_ret
        exact ⟨rfl, HE.out⟩
      · have hk1 : (0 : Int) < k := by omega
        go_wp2_with fail
        refine (regs_any wr P1 code s HM.out).mono ?_
        rintro e wa ⟨ga, ca, rfl, ga0, ga1, gac, hb⟩
        have HBa : Hid (Below (w.heap.size + 1) w0 wa) := bl.hid (HB.out.trans (hb.mono (by omega)))
        have HMa := bl.hid (HM.out.keep hb)
        have HCa := bl.hid gac
        have sa := hb.size
        have lpa := HM.out.lt
        have lga := HM.out.mem.lt.2
        clear hb gac
        go_wp2_with fail
        refine (place_any wa P1 code s HMa.out).mono ?_
        rintro e wu ⟨rfl, hwu⟩
        subst wu
        go_wp2_with fail
        refine (bytes16_any wa P1 code s HMa.out hlen2).mono ?_
        rintro e wb ⟨gb, cb, rfl, gb0, gb1, gbc, hb⟩
        have HBb : Hid (Below (w.heap.size + 1) w0 wb) := bl.hid (HBa.out.trans (hb.mono (by omega)))
        have HMb := bl.hid (HMa.out.keep hb)
        have HCa2 : Hid (∀ i, i < 32 → wb.cell? ⟨ga, i, none⟩ = some (.int .u64 (s.r i))) := bl.hid (fun i hi => (hb.cell (p := ⟨ga, i, none⟩) ga1).trans (HCa.out i hi))
        have HCb := bl.hid gbc
        have sb' := hb.size
        clear hb gbc HCa
        obtain ⟨et, ht⟩ : ∃ et, st.step code P1.n s = et := ⟨_, rfl⟩
        obtain ⟨en, t⟩ := et
        have HStep := bl.hid (step_any wb P1 code s HMb.out)
        rw [ht] at HStep
        have HStep' : Hid (Calls Try.prog 11 #[.pointer (some ⟨P1.p, 0, none⟩)] wb (TurnPost P1 code (.int .i64 en) t wb)) := bl.hid HStep.out
        obtain ⟨q1, q2, q3, q4⟩ := st.little_law code P1.n s t en ht
        have HQ4 := bl.hid q4
        have HT := bl.hid ht
        clear HStep q4 ht
        go_wp2_with fail
        refine HStep'.out.mono ?_
        rintro e wc ⟨rfl, hm, hb⟩
        have HBc : Hid (Below (w.heap.size + 1) w0 wc) := bl.hid (hb.below HBb.out (by omega) (by omega) (by omega))
        have HMc := bl.hid hm
        have HCa3 : Hid (∀ i, i < 32 → wc.cell? ⟨ga, i, none⟩ = some (.int .u64 (s.r i))) := bl.hid (fun i hi => (World.cell?_of_block (w := wb) (a := ⟨ga, i, none⟩) (hb.block ga (by omega) (by omega) (by omega))).trans (HCa2.out i hi))
        have HCb3 : Hid (∀ i, i < 112 → wc.cell? ⟨gb, i, none⟩ = some (.int .u8 (st.byteAt s.l i))) := bl.hid (fun i hi => (World.cell?_of_block (w := wb) (a := ⟨gb, i, none⟩) (hb.block gb (by omega) (by omega) (by omega))).trans (HCb.out i hi))
        have sc := hb.size
        have ht0 : t.r 0 = 0 := hm.ok.zero
        have htl : t.l.length = 128 := by rw [q1]; exact hlen2
        clear hb hm HStep' HCa2 HCb
        go_wp2_with fail
        refine (regs_any wc P1 code t HMc.out).mono ?_
        rintro e wd ⟨gd, cd, rfl, gd0, gd1, gdc, hb⟩
        have HBd : Hid (Below (w.heap.size + 1) w0 wd) := bl.hid (HBc.out.trans (hb.mono (by omega)))
        have HMd := bl.hid (HMc.out.keep hb)
        have HCa4 : Hid (∀ i, i < 32 → wd.cell? ⟨ga, i, none⟩ = some (.int .u64 (s.r i))) := bl.hid (fun i hi => (hb.cell (p := ⟨ga, i, none⟩) (show ga < _ by omega)).trans (HCa3.out i hi))
        have HCb4 : Hid (∀ i, i < 112 → wd.cell? ⟨gb, i, none⟩ = some (.int .u8 (st.byteAt s.l i))) := bl.hid (fun i hi => (hb.cell (p := ⟨gb, i, none⟩) (show gb < _ by omega)).trans (HCb3.out i hi))
        have HCd := bl.hid gdc
        have sd := hb.size
        clear hb gdc HCa3 HCb3
        go_wp2_with fail
        refine (bytes16_any wd P1 code t HMd.out htl).mono ?_
        rintro e we ⟨ge, ce, rfl, ge0, ge1, gec, hb⟩
        have HBe' : Hid (Below (w.heap.size + 1) w0 we) := bl.hid (HBd.out.trans (hb.mono (by omega)))
        have HMe := bl.hid (HMd.out.keep hb)
        have HCa5 : Hid (∀ i, i < 32 → we.cell? ⟨ga, i, none⟩ = some (.int .u64 (s.r i))) := bl.hid (fun i hi => (hb.cell (p := ⟨ga, i, none⟩) (show ga < _ by omega)).trans (HCa4.out i hi))
        have HCb5 : Hid (∀ i, i < 112 → we.cell? ⟨gb, i, none⟩ = some (.int .u8 (st.byteAt s.l i))) := bl.hid (fun i hi => (hb.cell (p := ⟨gb, i, none⟩) (show gb < _ by omega)).trans (HCb4.out i hi))
        have HCd5 : Hid (∀ i, i < 32 → we.cell? ⟨gd, i, none⟩ = some (.int .u64 (t.r i))) := bl.hid (fun i hi => (hb.cell (p := ⟨gd, i, none⟩) gd1).trans (HCd.out i hi))
        have HCe := bl.hid gec
        have se := hb.size
        have la : ga < we.heap.size := by omega
        have lb : gb < we.heap.size := by omega
        have ld : gd < we.heap.size := by omega
        clear hb gec HCa4 HCb4 HCd
        clear HB HM HBa HMa HBb HMb HBc HMc HBd HMd
        go_wp2
        go_loopw [17, 20] (fun u v wx => ∃ j : Nat, j ≤ 32 ∧ v = .int .i64 j ∧ u = .int .i64 (st.cnt s.r t.r j : Nat) ∧ Below we.heap.size we wx) (fun _ v _ => 32 - (intOf v).toNat)
        case atStart => exact ⟨0, by omega, rfl, rfl, Below.refl _ _⟩
        case round =>
          obtain ⟨j, hj, rfl, rfl, hb⟩ := hrel
          have HBx := bl.hid hb
          have hcb := st.cnt_bd s.r t.r j
          obtain ⟨C, hC⟩ : ∃ C, st.cnt s.r t.r j = C := ⟨_, rfl⟩
          rw [hC] at hcb ⊢
          by_cases hlt : j < 32
          · have c1 := (hb.cell (p := ⟨ga, j, none⟩) la).trans (HCa5.out j hlt)
            have c2 := (hb.cell (p := ⟨gd, j, none⟩) ld).trans (HCd5.out j hlt)
            have HS1 : Hid (st.cnt s.r t.r (j + 1) = if s.r j = t.r j then C else C + 1) := bl.hid (by rw [← hC]; rfl)
            have hlt2 : (j : Int) < 32 := by omega
            obtain ⟨E, hE⟩ : ∃ E, s.r j = E := ⟨_, rfl⟩
            obtain ⟨G, hG⟩ : ∃ G, t.r j = G := ⟨_, rfl⟩
            rw [hE] at c1 HS1
            rw [hG] at c2 HS1
            clear hb hE hG hC
            by_cases heq : E = G
            · subst heq
              have HS2 : Hid (st.cnt s.r t.r (j + 1) = C) := bl.hid (by rw [HS1.out, if_pos rfl])
              clear HS1
              go_wp2
              go_quiet (fail)
              have HB2 : Hid (Below we.heap.size we (wr.drewN nq)) := bl.hid (HBx.out.drewN' nq)
              go_wp2
              exact ⟨⟨j + 1, by omega, by go_num, by rw [HS2.out], HB2.out⟩, by simp [intOf]; omega⟩
            · have HS2 : Hid (st.cnt s.r t.r (j + 1) = C + 1) := bl.hid (by rw [HS1.out, if_neg heq])
              have hne : (E == G) = false := beq_eq_false_iff_ne.2 heq
              clear HS1
              go_wp2
              go_quiet (fail)
              have HB2 : Hid (Below we.heap.size we (wr.drewN nq)) := bl.hid (HBx.out.drewN' nq)
              go_wp2
              exact ⟨⟨j + 1, by omega, by go_num, by rw [HS2.out]; go_num, HB2.out⟩, by simp [intOf]; omega⟩
          · obtain rfl : j = 32 := by omega
            rw [hC] at q2 q3 HQ4
            have lxw := hb.size
            clear hb hC
            go_wp2
            go_loopw [18, 19, 21] (fun u1 u2 v wy => ∃ j : Nat, j ≤ 112 ∧ v = .int .i64 j ∧ u1 = .int .i64 (st.flB (st.byteAt s.l) (st.byteAt t.l) j).1 ∧ u2 = .int .i64 (st.flB (st.byteAt s.l) (st.byteAt t.l) j).2 ∧ Below we.heap.size we wy) (fun _ _ v _ => 112 - (intOf v).toNat)
            case atStart => exact ⟨0, by omega, rfl, rfl, rfl, HBx.out⟩
            case round =>
              obtain ⟨j, hj, rfl, rfl, rfl, hb⟩ := hrel
              have HBy := bl.hid hb
              have hfb := st.fl_bd (st.byteAt s.l) (st.byteAt t.l) j
              obtain ⟨F, hF⟩ : ∃ F, st.flB (st.byteAt s.l) (st.byteAt t.l) j = F := ⟨_, rfl⟩
              rw [hF] at hfb ⊢
              obtain ⟨fi, la'⟩ := F
              dsimp only at hfb ⊢
              have hfb2 : -1 ≤ fi ∧ fi ≤ la' ∧ la' < 112 := by
                rcases hfb with h | ⟨_, h⟩
                · omega
                · injection h with h1 h2; omega
              obtain ⟨z1, z2, z3⟩ := hfb2
              by_cases hlt : j < 112
              · have c1 := (hb.cell (p := ⟨gb, j, none⟩) lb).trans (HCb5.out j hlt)
                have c2 := (hb.cell (p := ⟨ge, j, none⟩) ge1).trans (HCe.out j hlt)
                have HS1 : Hid (st.flB (st.byteAt s.l) (st.byteAt t.l) (j + 1) = if st.byteAt s.l j = st.byteAt t.l j then (fi, la') else (if fi < 0 then (j : Int) else fi, (j : Int))) := bl.hid (by
                  show (if st.byteAt s.l j = st.byteAt t.l j then st.flB (st.byteAt s.l) (st.byteAt t.l) j else (if (st.flB (st.byteAt s.l) (st.byteAt t.l) j).1 < 0 then (j : Int) else (st.flB (st.byteAt s.l) (st.byteAt t.l) j).1, (j : Int))) = _
                  rw [hF])
                have hlt2 : (j : Int) < 112 := by omega
                obtain ⟨E, hE⟩ : ∃ E, st.byteAt s.l j = E := ⟨_, rfl⟩
                obtain ⟨G, hG⟩ : ∃ G, st.byteAt t.l j = G := ⟨_, rfl⟩
                rw [hE] at c1 HS1
                rw [hG] at c2 HS1
                clear hb hE hG hF hfb
                by_cases heq : E = G
                · subst heq
                  have HS2 : Hid (st.flB (st.byteAt s.l) (st.byteAt t.l) (j + 1) = (fi, la')) := bl.hid (by rw [HS1.out, if_pos rfl])
                  clear HS1
                  go_wp2
                  go_quiet (fail)
                  have HB2 : Hid (Below we.heap.size we (wr.drewN nq)) := bl.hid (HBy.out.drewN' nq)
                  go_wp2
                  exact ⟨⟨j + 1, by omega, by go_num, by rw [HS2.out], by rw [HS2.out], HB2.out⟩, by simp [intOf]; omega⟩
                · have hne : (E == G) = false := beq_eq_false_iff_ne.2 heq
                  by_cases hfi : fi < 0
                  · have HS2 : Hid (st.flB (st.byteAt s.l) (st.byteAt t.l) (j + 1) = ((j : Int), (j : Int))) := bl.hid (by rw [HS1.out, if_neg heq, if_pos hfi])
                    clear HS1
                    go_wp2
                    go_quiet (fail)
                    have HB2 : Hid (Below we.heap.size we (wr.drewN nq)) := bl.hid (HBy.out.drewN' nq)
                    go_wp2
                    exact ⟨⟨j + 1, by omega, by go_num, by rw [HS2.out], by rw [HS2.out], HB2.out⟩, by simp [intOf]; omega⟩
                  · have HS2 : Hid (st.flB (st.byteAt s.l) (st.byteAt t.l) (j + 1) = (fi, (j : Int))) := bl.hid (by rw [HS1.out, if_neg heq, if_neg hfi])
                    have hfi2 : 0 ≤ fi := by omega
                    clear HS1
                    go_wp2
                    go_quiet (fail)
                    have HB2 : Hid (Below we.heap.size we (wr.drewN nq)) := bl.hid (HBy.out.drewN' nq)
                    go_wp2
                    refine ⟨?_, by simp [intOf]; omega⟩
                    (repeat apply Exists.intro); refine ⟨⟨j + 1, by omega, by go_num, by rw [HS2.out], by rw [HS2.out], HB2.out⟩, ?_⟩; and_intros <;> rfl
              · obtain rfl : j = 112 := by omega
                rw [hF] at q3 HQ4
                dsimp only at q3 HQ4
                have c0 := (hb.cell (p := ⟨gd, 0, none⟩) ld).trans (HCd5.out 0 (by decide))
                rw [ht0] at c0
                have HMy := bl.hid (HMe.out.keep hb)
                have HBz : Hid (Below (w.heap.size + 1) w0 wr) := bl.hid (HBe'.out.trans (hb.mono (by omega)))
                have sy := hb.size
                clear hb hF hfb
                have hC1 : (C : Int) ≤ 1 := by omega
                have HNext : Hid (∃ s2, IsMach wr P1 code s2 ∧ s2.l.length = 128) := bl.hid ⟨t, HMy.out, htl⟩
                by_cases hen : en = 0
                · subst hen
                  by_cases hfi : fi < 0
                  · go_wp2
                    obtain ⟨s2, h1, h2⟩ := HNext.out
                    exact ⟨⟨k - 1, s2, by omega, by go_num, h1, h2, HBz.out⟩, by simp [intOf]; omega⟩
                  · have hfi2 : 0 ≤ fi := by omega
                    obtain ⟨y1, y2⟩ := q3.resolve_left hfi
                    subst y2
                    go_wp2
                    obtain ⟨s2, h1, h2⟩ := HNext.out
                    exact ⟨⟨k - 1, s2, by omega, by go_num, h1, h2, HBz.out⟩, by simp [intOf]; omega⟩
                · obtain ⟨y0, y1, y2⟩ := HQ4.out hen
                  subst y0 y1
                  have HPl := bl.hid (place_any wr P1 code t HMy.out)
                  have HSt := bl.hid (step_any wr P1 code t HMy.out)
                  rw [HT.out] at HSt
                  have HSt' : Hid (Calls Try.prog 11 #[.pointer (some ⟨P1.p, 0, none⟩)] wr (TurnPost P1 code (.int .i64 en) t wr)) := bl.hid HSt.out
                  clear HSt
                  go_wp2_with fail
                  refine HPl.out.mono ?_
                  rintro e wu ⟨rfl, hwu⟩
                  subst wu
                  go_wp2_with fail
                  refine HSt'.out.mono ?_
                  rintro e wz ⟨rfl, hm, hb⟩
                  have HE : Hid (Below w.heap.size w wz) := bl.hid (HW.out _ (hb.below HBz.out (by omega) (by omega) (by omega)))
                  clear hb hm
                  go_wp2
                  go_ret
                  exact ⟨rfl, HE.out⟩
end Go.Proofs.Ytjjkocklpcdbkaa
