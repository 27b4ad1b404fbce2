/- MemApart, walked: it returns true. -/
import Derived.Test.YtkohmoekomegnaaMemPlain
namespace Go.Proofs.Ytkohmoekomegnaa
open Go.RowKit
set_option linter.unusedVariables false

set_option maxRecDepth 100000 in
set_option maxHeartbeats 6400000 in
theorem apart_core1 (a : Option Addr) (len cap : Nat) (bs : List Int) (a1 a2 v : Int) (w : World) (hr : kt.Rd w a len bs) (l0 : 0 < len) (l1 : len ≤ 100) (p0 : -9223372036854775808 ≤ a1) (p1 : a1 ≤ 9223372036854775807) (q0 : -9223372036854775808 ≤ a2) (q1 : a2 ≤ 9223372036854775807) (v0 : 0 ≤ v) (v1 : v < 18446744073709551616) (hpk : pl.pickV a2 4 = 0) :
    Calls Try.prog 3 #[.slice a len cap, .int .i64 a1, .int .i64 a2, .int .u64 v] w fun e w' => e = .returned (.bool true) ∧ Below w.heap.size w w' := by
  have hal := pl.pickV_bd a1 len (by omega)
  obtain ⟨t, ht⟩ : ∃ t : Nat, pl.pickV a1 len = t := ⟨(pl.pickV a1 len).toNat, by omega⟩
  have htl : t < len := by omega
  have hz : ((len : Int) == 0) = false := by simp; omega
  have HP := bl.hid hpk
  have HT := bl.hid ht
  have HL := bl.hid hr.1
  have HB := bl.hid hr.2.1
  obtain ⟨b, off, rfl, hcc⟩ := hr.2.2.resolve_left (by omega)
  have hbl := block_lt_of_cell (hcc 0 l0)
  have hb0 : bs.length ≤ 100 := by have := hr.1; omega
  have H1 := pl.apart_1 bs (by omega)
  have H2 := pl.apart_2 bs t 1 (by omega) (by omega) (by omega)
  have H4 := pl.apart_4 bs t 1 v (by omega) (by omega) (by omega)
  have H3 := pl.apart_3 bs t 1 v (by omega) (by omega) (by omega)
  have H5 := pl.apart_5 bs t 1 v (by omega) hr.2.1 (by omega)
  have S1 := pl.seen_length bs t 1 (by omega) (by omega)
  have S2 : ∀ j, j < 1 → (pl.seen bs t 1).getD j 0 = if t + j < len then bs.getD (t + j) 0 else 0 := fun j hj => by rw [pl.seen_at bs t 1 j (by omega) (by omega) hj, hr.1]
  have S3 := pl.seen_bytes hr.2.1 t 1
  obtain ⟨vs, hvs⟩ : ∃ vs, pl.seen bs t 1 = vs := ⟨_, rfl⟩
  rw [hvs] at H2 H5 S1 S2 S3
  obtain ⟨L1, hL1⟩ : ∃ L, pl.lay pl.z200 16 bs = L := ⟨_, rfl⟩
  rw [hL1] at H1 H2 H3 H4 H5
  obtain ⟨L2, hL2⟩ : ∃ L, pl.lay L1 (16 + t) (wd.leB v 1) = L := ⟨_, rfl⟩
  rw [hL2] at H3 H4 H5
  have HL1 : Hid (0 < L1.length) := bl.hid (by rw [← hL1, pl.apart_len bs (by omega)]; omega)
  have G1 := bl.hid H1
  have G2 : Hid (pl.ldE L1 (16 + (t : Int)) 1 = 0 ∧ pl.ldV L1 (16 + (t : Int)) 1 = wd.leV vs) := bl.hid H2
  have G3 : Hid (pl.stL L1 (16 + (t : Int)) 1 v = L2) := bl.hid H3
  have G4 : Hid (pl.ldE L2 (16 + (t : Int)) 1 = 0 ∧ pl.ldV L2 (16 + (t : Int)) 1 = v % 256 ^ 1) := bl.hid H4
  have G5 := bl.hid H5
  have HR := bl.hid hr
  have T1 := bl.hid S1
  have T2 := bl.hid S2
  have T3 := bl.hid S3
  clear H1 H2 H3 H4 H5 hr S1 S2 S3 hb0 hvs hL1 hL2 hpk ht hal hcc
  go_enter Try.func3, Try.ntmps3
  go_wp2_with fail
  refine (awake_true _).mono ?_
  rintro e w1 ⟨rfl, hb1⟩
  have hs1 := hb1.size
  go_wp2_with fail
  refine (made_ok 200 _ (by omega) (by omega)).mono ?_
  rintro e w2 ⟨p, g, rfl, hp, hg, hm, hb⟩
  have HM2 : Hid (IsMem w2 p g pl.z200) := bl.hid hm
  have hb2 := hb1.trans (hb.mono hs1)
  have hs2 := hb2.size
  have hg2 : w.heap.size ≤ g := by omega
  have HR2 := bl.hid (HR.out.keep hb2)
  clear hm hb hb1
  go_wp2_with fail
  refine (lay_any p g 16 len cap _ bs _ _ HM2.out HR2.out (by omega) (by omega) (by omega)).mono ?_
  rintro e w3 ⟨rfl, hgr, hm⟩
  rw [G1.out.2]
  rw [G1.out.1] at hm
  have HM3 := bl.hid hm
  have hb3 := hb2.trans (grown_below hgr hg2 hs2)
  have hs3 := hb3.size
  have HR3 := bl.hid (HR.out.keep hb3)
  clear hm hgr HM2 HR2 hb2
  go_wp2_with fail
  refine (pick_val a2 4 _ (by omega) (by omega) q0 q1).mono ?_
  rw [HP.out]
  rintro e w' ⟨rfl, rfl⟩
  go_wp2_with fail
  refine (pick_val a1 len _ (by omega) (by omega) p0 p1).mono ?_
  rw [HT.out]
  rintro e w' ⟨rfl, rfl⟩
  go_wp2
  go_loop [11, 12] (fun x i => ∃ k : Nat, k ≤ 1 ∧ i = .int .i64 ((k : Int) - 1) ∧ x = .int .u64 (wd.leV (vs.drop k))) (fun _ i => (intOf i + 1).toNat)
  case atStart => exact ⟨1, by omega, bl.int_eq (by omega), bl.int_eq (by rw [List.drop_of_length_le (by have := T1.out; omega)]; rfl)⟩
  case round =>
    obtain ⟨k, hk, hi, rfl⟩ := hrel
    rcases k with _ | j
    · subst hi
      have hM3 := HM3.out.lt
      have X0 := (leV_bd8 vs T3.out (by have := T1.out; omega)).1
      have X1 := (leV_bd8 vs T3.out (by have := T1.out; omega)).2
      rw [show vs.drop 0 = vs from rfl]
      obtain ⟨X, hX⟩ : ∃ X, wd.leV vs = X := ⟨_, rfl⟩
      have HX := bl.hid hX
      rw [hX] at X0 X1 ⊢
      clear hX
      go_wp2_with fail
      refine (mcopy_any p g _ _ HM3.out HL1.out).mono ?_
      rintro e w4 ⟨p2, g2, rfl, hp2, hg2', hm, hb⟩
      have HK := bl.hid hm
      have HM4 := bl.hid (HM3.out.keep hb)
      have hb4 := hb3.trans (hb.mono hs3)
      have hs4 := hb4.size
      clear hm hb hb3
      go_wp2_with fail
      refine (msame_yes p2 g2 p g _ _ _ HK.out HM4.out rfl).mono ?_
      rintro e w5 ⟨rfl, hb⟩
      have HK5 := bl.hid (HK.out.keep hb)
      have HM5 := bl.hid (HM4.out.keep hb)
      have hb5 := hb4.trans (hb.mono hs4)
      have hs5 := hb5.size
      clear HK HM4 hb hb4
      go_wp2_with fail
      refine (loads_yes p g _ 1 _ _ _ HM5.out (by omega) (by omega) G2.out.1 (G2.out.2.trans HX.out)).mono ?_
      rintro e w6 ⟨rfl, hb⟩
      have HK6 := bl.hid (HK5.out.keep hb)
      have HM6 := bl.hid (HM5.out.keep hb)
      have hb6 := hb5.trans (hb.mono hs5)
      have hs6 := hb6.size
      clear HK5 HM5 hb hb5
      go_wp2_with fail
      refine (store_any p2 g2 _ 1 v _ _ HK6.out (by omega) (by omega) v0 v1).mono ?_
      rintro e w7 ⟨rfl, hgr, hm⟩
      rw [G2.out.1]
      rw [G3.out] at hm
      have HK7 := bl.hid hm
      have HM7 := bl.hid (HM6.out.kept (hgr.block p HM6.out.lt.1 (by simp; omega)) (hgr.block g HM6.out.lt.2 (by simp; omega)))
      have hb7 := hb6.trans (grown_below hgr (by omega) hs6)
      have hs7 := hb7.size
      clear HK6 HM6 hm hgr hb6
      go_wp2_with fail
      refine (loads_yes p g _ 1 _ _ _ HM7.out (by omega) (by omega) G2.out.1 (G2.out.2.trans HX.out)).mono ?_
      rintro e w8 ⟨rfl, hb⟩
      have HK8 := bl.hid (HK7.out.keep hb)
      have HM8 := bl.hid (HM7.out.keep hb)
      have hb8 := hb7.trans (hb.mono hs7)
      have hs8 := hb8.size
      clear HK7 HM7 hb hb7
      go_wp2_with fail
      refine (cut1 v _ v0 v1).mono ?_
      rintro e w' ⟨rfl, rfl⟩
      obtain ⟨Y, hY⟩ : ∃ Y, v % 256 ^ 1 = Y := ⟨_, rfl⟩
      rw [hY]
      have HY := bl.hid hY
      clear hY
      go_wp2_with fail
      refine (loads_yes p2 g2 _ 1 _ _ _ HK8.out (by omega) (by omega) G4.out.1 (G4.out.2.trans HY.out)).mono ?_
      rintro e w9 ⟨rfl, hb⟩
      have HK9 := bl.hid (HK8.out.keep hb)
      have HM9 := bl.hid (HM8.out.keep hb)
      have hb9 := hb8.trans (hb.mono hs8)
      have hs9 := hb9.size
      clear HK8 HM8 hb hb8
      go_wp2_with fail
      refine (msame_any p2 g2 p g _ _ _ HK9.out HM9.out).mono ?_
      rw [G5.out, HY.out, HX.out]
      rintro e w10 ⟨rfl, hb⟩
      have hb10 := hb9.trans (hb.mono hs9)
      clear HK9 HM9 hb hb9
      go_wp2_with fail
      refine (cut1 v _ v0 v1).mono ?_
      rw [HY.out]
      rintro e w' ⟨rfl, rfl⟩
      go_wp2
      go_ret
      exact ⟨bl.ret1 (bl.bool_eq (by simp)), hb10⟩
    · rw [show ((j + 1 : Nat) : Int) - 1 = (j : Int) by omega] at hi
      subst hi
      have hj : j ≤ 0 := by omega
      have hbl2 := leV_bd8 (vs.drop j) (wd.isBytes_drop T3.out j) (by have := T1.out; rw [List.length_drop]; omega)
      have hXb := leV_bd8 (vs.drop (j + 1)) (wd.isBytes_drop T3.out (j + 1)) (by have := T1.out; rw [List.length_drop]; omega)
      have hnx : wd.leV (vs.drop j) = vs.getD j 0 + 256 * wd.leV (vs.drop (j + 1)) := wd.leV_drop vs j (by have := T1.out; omega)
      obtain ⟨X, hX⟩ : ∃ X, wd.leV (vs.drop (j + 1)) = X := ⟨_, rfl⟩
      rw [hX] at hXb hnx
      rw [hX]
      have x0 : 0 ≤ X := hXb.1
      have x2 : X < 18446744073709551616 := hXb.2
      by_cases htj : t + j < len
      · have hd := T2.out j (by omega)
        rw [if_pos htj] at hd
        obtain ⟨d, hdd⟩ : ∃ d, bs.getD (t + j) 0 = d := ⟨_, rfl⟩
        rw [hdd] at hd
        have d0 : 0 ≤ d := by rw [← hdd]; exact (wd.isBytes_getD HB.out _).1
        have d1 : d < 256 := by rw [← hdd]; exact (wd.isBytes_getD HB.out _).2
        obtain ⟨b', off', e', hcc⟩ := HR3.out.2.2.resolve_left (by omega)
        simp only [Option.some.injEq, Addr.mk.injEq] at e'
        obtain ⟨rfl, rfl, -⟩ := e'
        have hcell : w3.cell? ⟨b, off + (t + j), none⟩ = some (.int .u8 d) := by rw [← hdd]; exact hcc (t + j) htj
        have x1 : X * 256 + d < 18446744073709551616 := by omega
        have x3 : X * 256 < 18446744073709551616 := by omega
        have HN : Hid (wd.leV (vs.drop j) = X * 256 + d) := bl.hid (by omega)
        clear hX hnx hbl2 hXb hk hd hdd hcc
        go_wp2
        go_round
        case rel => first | exact ⟨j, by omega, bl.int_eq (by omega), bl.int_eq (by rw [HN.out])⟩ | ((repeat apply Exists.intro); refine ⟨⟨j, by omega, bl.int_eq (by omega), bl.int_eq (by rw [HN.out])⟩, ?_⟩; and_intros <;> rfl)
        case measure => simp [intOf]; try omega
      · omega
set_option maxRecDepth 100000 in
set_option maxHeartbeats 6400000 in
theorem apart_core2 (a : Option Addr) (len cap : Nat) (bs : List Int) (a1 a2 v : Int) (w : World) (hr : kt.Rd w a len bs) (l0 : 0 < len) (l1 : len ≤ 100) (p0 : -9223372036854775808 ≤ a1) (p1 : a1 ≤ 9223372036854775807) (q0 : -9223372036854775808 ≤ a2) (q1 : a2 ≤ 9223372036854775807) (v0 : 0 ≤ v) (v1 : v < 18446744073709551616) (hpk : pl.pickV a2 4 = 1) :
    Calls Try.prog 3 #[.slice a len cap, .int .i64 a1, .int .i64 a2, .int .u64 v] w fun e w' => e = .returned (.bool true) ∧ Below w.heap.size w w' := by
  have hal := pl.pickV_bd a1 len (by omega)
  obtain ⟨t, ht⟩ : ∃ t : Nat, pl.pickV a1 len = t := ⟨(pl.pickV a1 len).toNat, by omega⟩
  have htl : t < len := by omega
  have hz : ((len : Int) == 0) = false := by simp; omega
  have HP := bl.hid hpk
  have HT := bl.hid ht
  have HL := bl.hid hr.1
  have HB := bl.hid hr.2.1
  obtain ⟨b, off, rfl, hcc⟩ := hr.2.2.resolve_left (by omega)
  have hbl := block_lt_of_cell (hcc 0 l0)
  have hb0 : bs.length ≤ 100 := by have := hr.1; omega
  have H1 := pl.apart_1 bs (by omega)
  have H2 := pl.apart_2 bs t 2 (by omega) (by omega) (by omega)
  have H4 := pl.apart_4 bs t 2 v (by omega) (by omega) (by omega)
  have H3 := pl.apart_3 bs t 2 v (by omega) (by omega) (by omega)
  have H5 := pl.apart_5 bs t 2 v (by omega) hr.2.1 (by omega)
  have S1 := pl.seen_length bs t 2 (by omega) (by omega)
  have S2 : ∀ j, j < 2 → (pl.seen bs t 2).getD j 0 = if t + j < len then bs.getD (t + j) 0 else 0 := fun j hj => by rw [pl.seen_at bs t 2 j (by omega) (by omega) hj, hr.1]
  have S3 := pl.seen_bytes hr.2.1 t 2
  obtain ⟨vs, hvs⟩ : ∃ vs, pl.seen bs t 2 = vs := ⟨_, rfl⟩
  rw [hvs] at H2 H5 S1 S2 S3
  obtain ⟨L1, hL1⟩ : ∃ L, pl.lay pl.z200 16 bs = L := ⟨_, rfl⟩
  rw [hL1] at H1 H2 H3 H4 H5
  obtain ⟨L2, hL2⟩ : ∃ L, pl.lay L1 (16 + t) (wd.leB v 2) = L := ⟨_, rfl⟩
  rw [hL2] at H3 H4 H5
  have HL1 : Hid (0 < L1.length) := bl.hid (by rw [← hL1, pl.apart_len bs (by omega)]; omega)
  have G1 := bl.hid H1
  have G2 : Hid (pl.ldE L1 (16 + (t : Int)) 2 = 0 ∧ pl.ldV L1 (16 + (t : Int)) 2 = wd.leV vs) := bl.hid H2
  have G3 : Hid (pl.stL L1 (16 + (t : Int)) 2 v = L2) := bl.hid H3
  have G4 : Hid (pl.ldE L2 (16 + (t : Int)) 2 = 0 ∧ pl.ldV L2 (16 + (t : Int)) 2 = v % 256 ^ 2) := bl.hid H4
  have G5 := bl.hid H5
  have HR := bl.hid hr
  have T1 := bl.hid S1
  have T2 := bl.hid S2
  have T3 := bl.hid S3
  clear H1 H2 H3 H4 H5 hr S1 S2 S3 hb0 hvs hL1 hL2 hpk ht hal hcc
  go_enter Try.func3, Try.ntmps3
  go_wp2_with fail
  refine (awake_true _).mono ?_
  rintro e w1 ⟨rfl, hb1⟩
  have hs1 := hb1.size
  go_wp2_with fail
  refine (made_ok 200 _ (by omega) (by omega)).mono ?_
  rintro e w2 ⟨p, g, rfl, hp, hg, hm, hb⟩
  have HM2 : Hid (IsMem w2 p g pl.z200) := bl.hid hm
  have hb2 := hb1.trans (hb.mono hs1)
  have hs2 := hb2.size
  have hg2 : w.heap.size ≤ g := by omega
  have HR2 := bl.hid (HR.out.keep hb2)
  clear hm hb hb1
  go_wp2_with fail
  refine (lay_any p g 16 len cap _ bs _ _ HM2.out HR2.out (by omega) (by omega) (by omega)).mono ?_
  rintro e w3 ⟨rfl, hgr, hm⟩
  rw [G1.out.2]
  rw [G1.out.1] at hm
  have HM3 := bl.hid hm
  have hb3 := hb2.trans (grown_below hgr hg2 hs2)
  have hs3 := hb3.size
  have HR3 := bl.hid (HR.out.keep hb3)
  clear hm hgr HM2 HR2 hb2
  go_wp2_with fail
  refine (pick_val a2 4 _ (by omega) (by omega) q0 q1).mono ?_
  rw [HP.out]
  rintro e w' ⟨rfl, rfl⟩
  go_wp2_with fail
  refine (pick_val a1 len _ (by omega) (by omega) p0 p1).mono ?_
  rw [HT.out]
  rintro e w' ⟨rfl, rfl⟩
  go_wp2
  go_loop [11, 12] (fun x i => ∃ k : Nat, k ≤ 2 ∧ i = .int .i64 ((k : Int) - 1) ∧ x = .int .u64 (wd.leV (vs.drop k))) (fun _ i => (intOf i + 1).toNat)
  case atStart => exact ⟨2, by omega, bl.int_eq (by omega), bl.int_eq (by rw [List.drop_of_length_le (by have := T1.out; omega)]; rfl)⟩
  case round =>
    obtain ⟨k, hk, hi, rfl⟩ := hrel
    rcases k with _ | j
    · subst hi
      have hM3 := HM3.out.lt
      have X0 := (leV_bd8 vs T3.out (by have := T1.out; omega)).1
      have X1 := (leV_bd8 vs T3.out (by have := T1.out; omega)).2
      rw [show vs.drop 0 = vs from rfl]
      obtain ⟨X, hX⟩ : ∃ X, wd.leV vs = X := ⟨_, rfl⟩
      have HX := bl.hid hX
      rw [hX] at X0 X1 ⊢
      clear hX
      go_wp2_with fail
      refine (mcopy_any p g _ _ HM3.out HL1.out).mono ?_
      rintro e w4 ⟨p2, g2, rfl, hp2, hg2', hm, hb⟩
      have HK := bl.hid hm
      have HM4 := bl.hid (HM3.out.keep hb)
      have hb4 := hb3.trans (hb.mono hs3)
      have hs4 := hb4.size
      clear hm hb hb3
      go_wp2_with fail
      refine (msame_yes p2 g2 p g _ _ _ HK.out HM4.out rfl).mono ?_
      rintro e w5 ⟨rfl, hb⟩
      have HK5 := bl.hid (HK.out.keep hb)
      have HM5 := bl.hid (HM4.out.keep hb)
      have hb5 := hb4.trans (hb.mono hs4)
      have hs5 := hb5.size
      clear HK HM4 hb hb4
      go_wp2_with fail
      refine (loads_yes p g _ 2 _ _ _ HM5.out (by omega) (by omega) G2.out.1 (G2.out.2.trans HX.out)).mono ?_
      rintro e w6 ⟨rfl, hb⟩
      have HK6 := bl.hid (HK5.out.keep hb)
      have HM6 := bl.hid (HM5.out.keep hb)
      have hb6 := hb5.trans (hb.mono hs5)
      have hs6 := hb6.size
      clear HK5 HM5 hb hb5
      go_wp2_with fail
      refine (store_any p2 g2 _ 2 v _ _ HK6.out (by omega) (by omega) v0 v1).mono ?_
      rintro e w7 ⟨rfl, hgr, hm⟩
      rw [G2.out.1]
      rw [G3.out] at hm
      have HK7 := bl.hid hm
      have HM7 := bl.hid (HM6.out.kept (hgr.block p HM6.out.lt.1 (by simp; omega)) (hgr.block g HM6.out.lt.2 (by simp; omega)))
      have hb7 := hb6.trans (grown_below hgr (by omega) hs6)
      have hs7 := hb7.size
      clear HK6 HM6 hm hgr hb6
      go_wp2_with fail
      refine (loads_yes p g _ 2 _ _ _ HM7.out (by omega) (by omega) G2.out.1 (G2.out.2.trans HX.out)).mono ?_
      rintro e w8 ⟨rfl, hb⟩
      have HK8 := bl.hid (HK7.out.keep hb)
      have HM8 := bl.hid (HM7.out.keep hb)
      have hb8 := hb7.trans (hb.mono hs7)
      have hs8 := hb8.size
      clear HK7 HM7 hb hb7
      go_wp2_with fail
      refine (cut2 v _ v0 v1).mono ?_
      rintro e w' ⟨rfl, rfl⟩
      obtain ⟨Y, hY⟩ : ∃ Y, v % 256 ^ 2 = Y := ⟨_, rfl⟩
      rw [hY]
      have HY := bl.hid hY
      clear hY
      go_wp2_with fail
      refine (loads_yes p2 g2 _ 2 _ _ _ HK8.out (by omega) (by omega) G4.out.1 (G4.out.2.trans HY.out)).mono ?_
      rintro e w9 ⟨rfl, hb⟩
      have HK9 := bl.hid (HK8.out.keep hb)
      have HM9 := bl.hid (HM8.out.keep hb)
      have hb9 := hb8.trans (hb.mono hs8)
      have hs9 := hb9.size
      clear HK8 HM8 hb hb8
      go_wp2_with fail
      refine (msame_any p2 g2 p g _ _ _ HK9.out HM9.out).mono ?_
      rw [G5.out, HY.out, HX.out]
      rintro e w10 ⟨rfl, hb⟩
      have hb10 := hb9.trans (hb.mono hs9)
      clear HK9 HM9 hb hb9
      go_wp2_with fail
      refine (cut2 v _ v0 v1).mono ?_
      rw [HY.out]
      rintro e w' ⟨rfl, rfl⟩
      go_wp2
      go_ret
      exact ⟨bl.ret1 (bl.bool_eq (by simp)), hb10⟩
    · rw [show ((j + 1 : Nat) : Int) - 1 = (j : Int) by omega] at hi
      subst hi
      have hj : j ≤ 1 := by omega
      have hbl2 := leV_bd8 (vs.drop j) (wd.isBytes_drop T3.out j) (by have := T1.out; rw [List.length_drop]; omega)
      have hXb := leV_bd8 (vs.drop (j + 1)) (wd.isBytes_drop T3.out (j + 1)) (by have := T1.out; rw [List.length_drop]; omega)
      have hnx : wd.leV (vs.drop j) = vs.getD j 0 + 256 * wd.leV (vs.drop (j + 1)) := wd.leV_drop vs j (by have := T1.out; omega)
      obtain ⟨X, hX⟩ : ∃ X, wd.leV (vs.drop (j + 1)) = X := ⟨_, rfl⟩
      rw [hX] at hXb hnx
      rw [hX]
      have x0 : 0 ≤ X := hXb.1
      have x2 : X < 18446744073709551616 := hXb.2
      by_cases htj : t + j < len
      · have hd := T2.out j (by omega)
        rw [if_pos htj] at hd
        obtain ⟨d, hdd⟩ : ∃ d, bs.getD (t + j) 0 = d := ⟨_, rfl⟩
        rw [hdd] at hd
        have d0 : 0 ≤ d := by rw [← hdd]; exact (wd.isBytes_getD HB.out _).1
        have d1 : d < 256 := by rw [← hdd]; exact (wd.isBytes_getD HB.out _).2
        obtain ⟨b', off', e', hcc⟩ := HR3.out.2.2.resolve_left (by omega)
        simp only [Option.some.injEq, Addr.mk.injEq] at e'
        obtain ⟨rfl, rfl, -⟩ := e'
        have hcell : w3.cell? ⟨b, off + (t + j), none⟩ = some (.int .u8 d) := by rw [← hdd]; exact hcc (t + j) htj
        have x1 : X * 256 + d < 18446744073709551616 := by omega
        have x3 : X * 256 < 18446744073709551616 := by omega
        have HN : Hid (wd.leV (vs.drop j) = X * 256 + d) := bl.hid (by omega)
        clear hX hnx hbl2 hXb hk hd hdd hcc
        go_wp2
        go_round
        case rel => first | exact ⟨j, by omega, bl.int_eq (by omega), bl.int_eq (by rw [HN.out])⟩ | ((repeat apply Exists.intro); refine ⟨⟨j, by omega, bl.int_eq (by omega), bl.int_eq (by rw [HN.out])⟩, ?_⟩; and_intros <;> rfl)
        case measure => simp [intOf]; try omega
      · have hd := T2.out j (by omega)
        rw [if_neg htj] at hd
        have x3 : X * 256 < 18446744073709551616 := by omega
        have HN : Hid (wd.leV (vs.drop j) = X * 256) := bl.hid (by omega)
        clear hX hnx hbl2 hXb hk hd
        go_wp2
        go_round
        case rel => first | exact ⟨j, by omega, bl.int_eq (by omega), bl.int_eq (by rw [HN.out])⟩ | ((repeat apply Exists.intro); refine ⟨⟨j, by omega, bl.int_eq (by omega), bl.int_eq (by rw [HN.out])⟩, ?_⟩; and_intros <;> rfl)
        case measure => simp [intOf]; try omega
set_option maxRecDepth 100000 in
set_option maxHeartbeats 6400000 in
theorem apart_core4 (a : Option Addr) (len cap : Nat) (bs : List Int) (a1 a2 v : Int) (w : World) (hr : kt.Rd w a len bs) (l0 : 0 < len) (l1 : len ≤ 100) (p0 : -9223372036854775808 ≤ a1) (p1 : a1 ≤ 9223372036854775807) (q0 : -9223372036854775808 ≤ a2) (q1 : a2 ≤ 9223372036854775807) (v0 : 0 ≤ v) (v1 : v < 18446744073709551616) (hpk : pl.pickV a2 4 = 2) :
    Calls Try.prog 3 #[.slice a len cap, .int .i64 a1, .int .i64 a2, .int .u64 v] w fun e w' => e = .returned (.bool true) ∧ Below w.heap.size w w' := by
  have hal := pl.pickV_bd a1 len (by omega)
  obtain ⟨t, ht⟩ : ∃ t : Nat, pl.pickV a1 len = t := ⟨(pl.pickV a1 len).toNat, by omega⟩
  have htl : t < len := by omega
  have hz : ((len : Int) == 0) = false := by simp; omega
  have HP := bl.hid hpk
  have HT := bl.hid ht
  have HL := bl.hid hr.1
  have HB := bl.hid hr.2.1
  obtain ⟨b, off, rfl, hcc⟩ := hr.2.2.resolve_left (by omega)
  have hbl := block_lt_of_cell (hcc 0 l0)
  have hb0 : bs.length ≤ 100 := by have := hr.1; omega
  have H1 := pl.apart_1 bs (by omega)
  have H2 := pl.apart_2 bs t 4 (by omega) (by omega) (by omega)
  have H4 := pl.apart_4 bs t 4 v (by omega) (by omega) (by omega)
  have H3 := pl.apart_3 bs t 4 v (by omega) (by omega) (by omega)
  have H5 := pl.apart_5 bs t 4 v (by omega) hr.2.1 (by omega)
  have S1 := pl.seen_length bs t 4 (by omega) (by omega)
  have S2 : ∀ j, j < 4 → (pl.seen bs t 4).getD j 0 = if t + j < len then bs.getD (t + j) 0 else 0 := fun j hj => by rw [pl.seen_at bs t 4 j (by omega) (by omega) hj, hr.1]
  have S3 := pl.seen_bytes hr.2.1 t 4
  obtain ⟨vs, hvs⟩ : ∃ vs, pl.seen bs t 4 = vs := ⟨_, rfl⟩
  rw [hvs] at H2 H5 S1 S2 S3
  obtain ⟨L1, hL1⟩ : ∃ L, pl.lay pl.z200 16 bs = L := ⟨_, rfl⟩
  rw [hL1] at H1 H2 H3 H4 H5
  obtain ⟨L2, hL2⟩ : ∃ L, pl.lay L1 (16 + t) (wd.leB v 4) = L := ⟨_, rfl⟩
  rw [hL2] at H3 H4 H5
  have HL1 : Hid (0 < L1.length) := bl.hid (by rw [← hL1, pl.apart_len bs (by omega)]; omega)
  have G1 := bl.hid H1
  have G2 : Hid (pl.ldE L1 (16 + (t : Int)) 4 = 0 ∧ pl.ldV L1 (16 + (t : Int)) 4 = wd.leV vs) := bl.hid H2
  have G3 : Hid (pl.stL L1 (16 + (t : Int)) 4 v = L2) := bl.hid H3
  have G4 : Hid (pl.ldE L2 (16 + (t : Int)) 4 = 0 ∧ pl.ldV L2 (16 + (t : Int)) 4 = v % 256 ^ 4) := bl.hid H4
  have G5 := bl.hid H5
  have HR := bl.hid hr
  have T1 := bl.hid S1
  have T2 := bl.hid S2
  have T3 := bl.hid S3
  clear H1 H2 H3 H4 H5 hr S1 S2 S3 hb0 hvs hL1 hL2 hpk ht hal hcc
  go_enter Try.func3, Try.ntmps3
  go_wp2_with fail
  refine (awake_true _).mono ?_
  rintro e w1 ⟨rfl, hb1⟩
  have hs1 := hb1.size
  go_wp2_with fail
  refine (made_ok 200 _ (by omega) (by omega)).mono ?_
  rintro e w2 ⟨p, g, rfl, hp, hg, hm, hb⟩
  have HM2 : Hid (IsMem w2 p g pl.z200) := bl.hid hm
  have hb2 := hb1.trans (hb.mono hs1)
  have hs2 := hb2.size
  have hg2 : w.heap.size ≤ g := by omega
  have HR2 := bl.hid (HR.out.keep hb2)
  clear hm hb hb1
  go_wp2_with fail
  refine (lay_any p g 16 len cap _ bs _ _ HM2.out HR2.out (by omega) (by omega) (by omega)).mono ?_
  rintro e w3 ⟨rfl, hgr, hm⟩
  rw [G1.out.2]
  rw [G1.out.1] at hm
  have HM3 := bl.hid hm
  have hb3 := hb2.trans (grown_below hgr hg2 hs2)
  have hs3 := hb3.size
  have HR3 := bl.hid (HR.out.keep hb3)
  clear hm hgr HM2 HR2 hb2
  go_wp2_with fail
  refine (pick_val a2 4 _ (by omega) (by omega) q0 q1).mono ?_
  rw [HP.out]
  rintro e w' ⟨rfl, rfl⟩
  go_wp2_with fail
  refine (pick_val a1 len _ (by omega) (by omega) p0 p1).mono ?_
  rw [HT.out]
  rintro e w' ⟨rfl, rfl⟩
  go_wp2
  go_loop [11, 12] (fun x i => ∃ k : Nat, k ≤ 4 ∧ i = .int .i64 ((k : Int) - 1) ∧ x = .int .u64 (wd.leV (vs.drop k))) (fun _ i => (intOf i + 1).toNat)
  case atStart => exact ⟨4, by omega, bl.int_eq (by omega), bl.int_eq (by rw [List.drop_of_length_le (by have := T1.out; omega)]; rfl)⟩
  case round =>
    obtain ⟨k, hk, hi, rfl⟩ := hrel
    rcases k with _ | j
    · subst hi
      have hM3 := HM3.out.lt
      have X0 := (leV_bd8 vs T3.out (by have := T1.out; omega)).1
      have X1 := (leV_bd8 vs T3.out (by have := T1.out; omega)).2
      rw [show vs.drop 0 = vs from rfl]
      obtain ⟨X, hX⟩ : ∃ X, wd.leV vs = X := ⟨_, rfl⟩
      have HX := bl.hid hX
      rw [hX] at X0 X1 ⊢
      clear hX
      go_wp2_with fail
      refine (mcopy_any p g _ _ HM3.out HL1.out).mono ?_
      rintro e w4 ⟨p2, g2, rfl, hp2, hg2', hm, hb⟩
      have HK := bl.hid hm
      have HM4 := bl.hid (HM3.out.keep hb)
      have hb4 := hb3.trans (hb.mono hs3)
      have hs4 := hb4.size
      clear hm hb hb3
      go_wp2_with fail
      refine (msame_yes p2 g2 p g _ _ _ HK.out HM4.out rfl).mono ?_
      rintro e w5 ⟨rfl, hb⟩
      have HK5 := bl.hid (HK.out.keep hb)
      have HM5 := bl.hid (HM4.out.keep hb)
      have hb5 := hb4.trans (hb.mono hs4)
      have hs5 := hb5.size
      clear HK HM4 hb hb4
      go_wp2_with fail
      refine (loads_yes p g _ 4 _ _ _ HM5.out (by omega) (by omega) G2.out.1 (G2.out.2.trans HX.out)).mono ?_
      rintro e w6 ⟨rfl, hb⟩
      have HK6 := bl.hid (HK5.out.keep hb)
      have HM6 := bl.hid (HM5.out.keep hb)
      have hb6 := hb5.trans (hb.mono hs5)
      have hs6 := hb6.size
      clear HK5 HM5 hb hb5
      go_wp2_with fail
      refine (store_any p2 g2 _ 4 v _ _ HK6.out (by omega) (by omega) v0 v1).mono ?_
      rintro e w7 ⟨rfl, hgr, hm⟩
      rw [G2.out.1]
      rw [G3.out] at hm
      have HK7 := bl.hid hm
      have HM7 := bl.hid (HM6.out.kept (hgr.block p HM6.out.lt.1 (by simp; omega)) (hgr.block g HM6.out.lt.2 (by simp; omega)))
      have hb7 := hb6.trans (grown_below hgr (by omega) hs6)
      have hs7 := hb7.size
      clear HK6 HM6 hm hgr hb6
      go_wp2_with fail
      refine (loads_yes p g _ 4 _ _ _ HM7.out (by omega) (by omega) G2.out.1 (G2.out.2.trans HX.out)).mono ?_
      rintro e w8 ⟨rfl, hb⟩
      have HK8 := bl.hid (HK7.out.keep hb)
      have HM8 := bl.hid (HM7.out.keep hb)
      have hb8 := hb7.trans (hb.mono hs7)
      have hs8 := hb8.size
      clear HK7 HM7 hb hb7
      go_wp2_with fail
      refine (cut4 v _ v0 v1).mono ?_
      rintro e w' ⟨rfl, rfl⟩
      obtain ⟨Y, hY⟩ : ∃ Y, v % 256 ^ 4 = Y := ⟨_, rfl⟩
      rw [hY]
      have HY := bl.hid hY
      clear hY
      go_wp2_with fail
      refine (loads_yes p2 g2 _ 4 _ _ _ HK8.out (by omega) (by omega) G4.out.1 (G4.out.2.trans HY.out)).mono ?_
      rintro e w9 ⟨rfl, hb⟩
      have HK9 := bl.hid (HK8.out.keep hb)
      have HM9 := bl.hid (HM8.out.keep hb)
      have hb9 := hb8.trans (hb.mono hs8)
      have hs9 := hb9.size
      clear HK8 HM8 hb hb8
      go_wp2_with fail
      refine (msame_any p2 g2 p g _ _ _ HK9.out HM9.out).mono ?_
      rw [G5.out, HY.out, HX.out]
      rintro e w10 ⟨rfl, hb⟩
      have hb10 := hb9.trans (hb.mono hs9)
      clear HK9 HM9 hb hb9
      go_wp2_with fail
      refine (cut4 v _ v0 v1).mono ?_
      rw [HY.out]
      rintro e w' ⟨rfl, rfl⟩
      go_wp2
      go_ret
      exact ⟨bl.ret1 (bl.bool_eq (by simp)), hb10⟩
    · rw [show ((j + 1 : Nat) : Int) - 1 = (j : Int) by omega] at hi
      subst hi
      have hj : j ≤ 3 := by omega
      have hbl2 := leV_bd8 (vs.drop j) (wd.isBytes_drop T3.out j) (by have := T1.out; rw [List.length_drop]; omega)
      have hXb := leV_bd8 (vs.drop (j + 1)) (wd.isBytes_drop T3.out (j + 1)) (by have := T1.out; rw [List.length_drop]; omega)
      have hnx : wd.leV (vs.drop j) = vs.getD j 0 + 256 * wd.leV (vs.drop (j + 1)) := wd.leV_drop vs j (by have := T1.out; omega)
      obtain ⟨X, hX⟩ : ∃ X, wd.leV (vs.drop (j + 1)) = X := ⟨_, rfl⟩
      rw [hX] at hXb hnx
      rw [hX]
      have x0 : 0 ≤ X := hXb.1
      have x2 : X < 18446744073709551616 := hXb.2
      by_cases htj : t + j < len
      · have hd := T2.out j (by omega)
        rw [if_pos htj] at hd
        obtain ⟨d, hdd⟩ : ∃ d, bs.getD (t + j) 0 = d := ⟨_, rfl⟩
        rw [hdd] at hd
        have d0 : 0 ≤ d := by rw [← hdd]; exact (wd.isBytes_getD HB.out _).1
        have d1 : d < 256 := by rw [← hdd]; exact (wd.isBytes_getD HB.out _).2
        obtain ⟨b', off', e', hcc⟩ := HR3.out.2.2.resolve_left (by omega)
        simp only [Option.some.injEq, Addr.mk.injEq] at e'
        obtain ⟨rfl, rfl, -⟩ := e'
        have hcell : w3.cell? ⟨b, off + (t + j), none⟩ = some (.int .u8 d) := by rw [← hdd]; exact hcc (t + j) htj
        have x1 : X * 256 + d < 18446744073709551616 := by omega
        have x3 : X * 256 < 18446744073709551616 := by omega
        have HN : Hid (wd.leV (vs.drop j) = X * 256 + d) := bl.hid (by omega)
        clear hX hnx hbl2 hXb hk hd hdd hcc
        go_wp2
        go_round
        case rel => first | exact ⟨j, by omega, bl.int_eq (by omega), bl.int_eq (by rw [HN.out])⟩ | ((repeat apply Exists.intro); refine ⟨⟨j, by omega, bl.int_eq (by omega), bl.int_eq (by rw [HN.out])⟩, ?_⟩; and_intros <;> rfl)
        case measure => simp [intOf]; try omega
      · have hd := T2.out j (by omega)
        rw [if_neg htj] at hd
        have x3 : X * 256 < 18446744073709551616 := by omega
        have HN : Hid (wd.leV (vs.drop j) = X * 256) := bl.hid (by omega)
        clear hX hnx hbl2 hXb hk hd
        go_wp2
        go_round
        case rel => first | exact ⟨j, by omega, bl.int_eq (by omega), bl.int_eq (by rw [HN.out])⟩ | ((repeat apply Exists.intro); refine ⟨⟨j, by omega, bl.int_eq (by omega), bl.int_eq (by rw [HN.out])⟩, ?_⟩; and_intros <;> rfl)
        case measure => simp [intOf]; try omega
set_option maxRecDepth 100000 in
set_option maxHeartbeats 6400000 in
theorem apart_core8 (a : Option Addr) (len cap : Nat) (bs : List Int) (a1 a2 v : Int) (w : World) (hr : kt.Rd w a len bs) (l0 : 0 < len) (l1 : len ≤ 100) (p0 : -9223372036854775808 ≤ a1) (p1 : a1 ≤ 9223372036854775807) (q0 : -9223372036854775808 ≤ a2) (q1 : a2 ≤ 9223372036854775807) (v0 : 0 ≤ v) (v1 : v < 18446744073709551616) (hpk : pl.pickV a2 4 = 3) :
    Calls Try.prog 3 #[.slice a len cap, .int .i64 a1, .int .i64 a2, .int .u64 v] w fun e w' => e = .returned (.bool true) ∧ Below w.heap.size w w' := by
  have hal := pl.pickV_bd a1 len (by omega)
  obtain ⟨t, ht⟩ : ∃ t : Nat, pl.pickV a1 len = t := ⟨(pl.pickV a1 len).toNat, by omega⟩
  have htl : t < len := by omega
  have hz : ((len : Int) == 0) = false := by simp; omega
  have HP := bl.hid hpk
  have HT := bl.hid ht
  have HL := bl.hid hr.1
  have HB := bl.hid hr.2.1
  obtain ⟨b, off, rfl, hcc⟩ := hr.2.2.resolve_left (by omega)
  have hbl := block_lt_of_cell (hcc 0 l0)
  have hb0 : bs.length ≤ 100 := by have := hr.1; omega
  have H1 := pl.apart_1 bs (by omega)
  have H2 := pl.apart_2 bs t 8 (by omega) (by omega) (by omega)
  have H4 := pl.apart_4 bs t 8 v (by omega) (by omega) (by omega)
  have H3 := pl.apart_3 bs t 8 v (by omega) (by omega) (by omega)
  have H5 := pl.apart_5 bs t 8 v (by omega) hr.2.1 (by omega)
  have S1 := pl.seen_length bs t 8 (by omega) (by omega)
  have S2 : ∀ j, j < 8 → (pl.seen bs t 8).getD j 0 = if t + j < len then bs.getD (t + j) 0 else 0 := fun j hj => by rw [pl.seen_at bs t 8 j (by omega) (by omega) hj, hr.1]
  have S3 := pl.seen_bytes hr.2.1 t 8
  obtain ⟨vs, hvs⟩ : ∃ vs, pl.seen bs t 8 = vs := ⟨_, rfl⟩
  rw [hvs] at H2 H5 S1 S2 S3
  obtain ⟨L1, hL1⟩ : ∃ L, pl.lay pl.z200 16 bs = L := ⟨_, rfl⟩
  rw [hL1] at H1 H2 H3 H4 H5
  obtain ⟨L2, hL2⟩ : ∃ L, pl.lay L1 (16 + t) (wd.leB v 8) = L := ⟨_, rfl⟩
  rw [hL2] at H3 H4 H5
  have HL1 : Hid (0 < L1.length) := bl.hid (by rw [← hL1, pl.apart_len bs (by omega)]; omega)
  have G1 := bl.hid H1
  have G2 : Hid (pl.ldE L1 (16 + (t : Int)) 8 = 0 ∧ pl.ldV L1 (16 + (t : Int)) 8 = wd.leV vs) := bl.hid H2
  have G3 : Hid (pl.stL L1 (16 + (t : Int)) 8 v = L2) := bl.hid H3
  have G4 : Hid (pl.ldE L2 (16 + (t : Int)) 8 = 0 ∧ pl.ldV L2 (16 + (t : Int)) 8 = v % 256 ^ 8) := bl.hid H4
  have G5 := bl.hid H5
  have HR := bl.hid hr
  have T1 := bl.hid S1
  have T2 := bl.hid S2
  have T3 := bl.hid S3
  clear H1 H2 H3 H4 H5 hr S1 S2 S3 hb0 hvs hL1 hL2 hpk ht hal hcc
  go_enter Try.func3, Try.ntmps3
  go_wp2_with fail
  refine (awake_true _).mono ?_
  rintro e w1 ⟨rfl, hb1⟩
  have hs1 := hb1.size
  go_wp2_with fail
  refine (made_ok 200 _ (by omega) (by omega)).mono ?_
  rintro e w2 ⟨p, g, rfl, hp, hg, hm, hb⟩
  have HM2 : Hid (IsMem w2 p g pl.z200) := bl.hid hm
  have hb2 := hb1.trans (hb.mono hs1)
  have hs2 := hb2.size
  have hg2 : w.heap.size ≤ g := by omega
  have HR2 := bl.hid (HR.out.keep hb2)
  clear hm hb hb1
  go_wp2_with fail
  refine (lay_any p g 16 len cap _ bs _ _ HM2.out HR2.out (by omega) (by omega) (by omega)).mono ?_
  rintro e w3 ⟨rfl, hgr, hm⟩
  rw [G1.out.2]
  rw [G1.out.1] at hm
  have HM3 := bl.hid hm
  have hb3 := hb2.trans (grown_below hgr hg2 hs2)
  have hs3 := hb3.size
  have HR3 := bl.hid (HR.out.keep hb3)
  clear hm hgr HM2 HR2 hb2
  go_wp2_with fail
  refine (pick_val a2 4 _ (by omega) (by omega) q0 q1).mono ?_
  rw [HP.out]
  rintro e w' ⟨rfl, rfl⟩
  go_wp2_with fail
  refine (pick_val a1 len _ (by omega) (by omega) p0 p1).mono ?_
  rw [HT.out]
  rintro e w' ⟨rfl, rfl⟩
  go_wp2
  go_loop [11, 12] (fun x i => ∃ k : Nat, k ≤ 8 ∧ i = .int .i64 ((k : Int) - 1) ∧ x = .int .u64 (wd.leV (vs.drop k))) (fun _ i => (intOf i + 1).toNat)
  case atStart => exact ⟨8, by omega, bl.int_eq (by omega), bl.int_eq (by rw [List.drop_of_length_le (by have := T1.out; omega)]; rfl)⟩
  case round =>
    obtain ⟨k, hk, hi, rfl⟩ := hrel
    rcases k with _ | j
    · subst hi
      have hM3 := HM3.out.lt
      have X0 := (leV_bd8 vs T3.out (by have := T1.out; omega)).1
      have X1 := (leV_bd8 vs T3.out (by have := T1.out; omega)).2
      rw [show vs.drop 0 = vs from rfl]
      obtain ⟨X, hX⟩ : ∃ X, wd.leV vs = X := ⟨_, rfl⟩
      have HX := bl.hid hX
      rw [hX] at X0 X1 ⊢
      clear hX
      go_wp2_with fail
      refine (mcopy_any p g _ _ HM3.out HL1.out).mono ?_
      rintro e w4 ⟨p2, g2, rfl, hp2, hg2', hm, hb⟩
      have HK := bl.hid hm
      have HM4 := bl.hid (HM3.out.keep hb)
      have hb4 := hb3.trans (hb.mono hs3)
      have hs4 := hb4.size
      clear hm hb hb3
      go_wp2_with fail
      refine (msame_yes p2 g2 p g _ _ _ HK.out HM4.out rfl).mono ?_
      rintro e w5 ⟨rfl, hb⟩
      have HK5 := bl.hid (HK.out.keep hb)
      have HM5 := bl.hid (HM4.out.keep hb)
      have hb5 := hb4.trans (hb.mono hs4)
      have hs5 := hb5.size
      clear HK HM4 hb hb4
      go_wp2_with fail
      refine (loads_yes p g _ 8 _ _ _ HM5.out (by omega) (by omega) G2.out.1 (G2.out.2.trans HX.out)).mono ?_
      rintro e w6 ⟨rfl, hb⟩
      have HK6 := bl.hid (HK5.out.keep hb)
      have HM6 := bl.hid (HM5.out.keep hb)
      have hb6 := hb5.trans (hb.mono hs5)
      have hs6 := hb6.size
      clear HK5 HM5 hb hb5
      go_wp2_with fail
      refine (store_any p2 g2 _ 8 v _ _ HK6.out (by omega) (by omega) v0 v1).mono ?_
      rintro e w7 ⟨rfl, hgr, hm⟩
      rw [G2.out.1]
      rw [G3.out] at hm
      have HK7 := bl.hid hm
      have HM7 := bl.hid (HM6.out.kept (hgr.block p HM6.out.lt.1 (by simp; omega)) (hgr.block g HM6.out.lt.2 (by simp; omega)))
      have hb7 := hb6.trans (grown_below hgr (by omega) hs6)
      have hs7 := hb7.size
      clear HK6 HM6 hm hgr hb6
      go_wp2_with fail
      refine (loads_yes p g _ 8 _ _ _ HM7.out (by omega) (by omega) G2.out.1 (G2.out.2.trans HX.out)).mono ?_
      rintro e w8 ⟨rfl, hb⟩
      have HK8 := bl.hid (HK7.out.keep hb)
      have HM8 := bl.hid (HM7.out.keep hb)
      have hb8 := hb7.trans (hb.mono hs7)
      have hs8 := hb8.size
      clear HK7 HM7 hb hb7
      go_wp2_with fail
      refine (cut8 v _ v0 v1).mono ?_
      rintro e w' ⟨rfl, rfl⟩
      obtain ⟨Y, hY⟩ : ∃ Y, v % 256 ^ 8 = Y := ⟨_, rfl⟩
      rw [hY]
      have HY := bl.hid hY
      clear hY
      go_wp2_with fail
      refine (loads_yes p2 g2 _ 8 _ _ _ HK8.out (by omega) (by omega) G4.out.1 (G4.out.2.trans HY.out)).mono ?_
      rintro e w9 ⟨rfl, hb⟩
      have HK9 := bl.hid (HK8.out.keep hb)
      have HM9 := bl.hid (HM8.out.keep hb)
      have hb9 := hb8.trans (hb.mono hs8)
      have hs9 := hb9.size
      clear HK8 HM8 hb hb8
      go_wp2_with fail
      refine (msame_any p2 g2 p g _ _ _ HK9.out HM9.out).mono ?_
      rw [G5.out, HY.out, HX.out]
      rintro e w10 ⟨rfl, hb⟩
      have hb10 := hb9.trans (hb.mono hs9)
      clear HK9 HM9 hb hb9
      go_wp2_with fail
      refine (cut8 v _ v0 v1).mono ?_
      rw [HY.out]
      rintro e w' ⟨rfl, rfl⟩
      go_wp2
      go_ret
      exact ⟨bl.ret1 (bl.bool_eq (by simp)), hb10⟩
    · rw [show ((j + 1 : Nat) : Int) - 1 = (j : Int) by omega] at hi
      subst hi
      have hj : j ≤ 7 := by omega
      have hbl2 := leV_bd8 (vs.drop j) (wd.isBytes_drop T3.out j) (by have := T1.out; rw [List.length_drop]; omega)
      have hXb := leV_bd8 (vs.drop (j + 1)) (wd.isBytes_drop T3.out (j + 1)) (by have := T1.out; rw [List.length_drop]; omega)
      have hnx : wd.leV (vs.drop j) = vs.getD j 0 + 256 * wd.leV (vs.drop (j + 1)) := wd.leV_drop vs j (by have := T1.out; omega)
      obtain ⟨X, hX⟩ : ∃ X, wd.leV (vs.drop (j + 1)) = X := ⟨_, rfl⟩
      rw [hX] at hXb hnx
      rw [hX]
      have x0 : 0 ≤ X := hXb.1
      have x2 : X < 18446744073709551616 := hXb.2
      by_cases htj : t + j < len
      · have hd := T2.out j (by omega)
        rw [if_pos htj] at hd
        obtain ⟨d, hdd⟩ : ∃ d, bs.getD (t + j) 0 = d := ⟨_, rfl⟩
        rw [hdd] at hd
        have d0 : 0 ≤ d := by rw [← hdd]; exact (wd.isBytes_getD HB.out _).1
        have d1 : d < 256 := by rw [← hdd]; exact (wd.isBytes_getD HB.out _).2
        obtain ⟨b', off', e', hcc⟩ := HR3.out.2.2.resolve_left (by omega)
        simp only [Option.some.injEq, Addr.mk.injEq] at e'
        obtain ⟨rfl, rfl, -⟩ := e'
        have hcell : w3.cell? ⟨b, off + (t + j), none⟩ = some (.int .u8 d) := by rw [← hdd]; exact hcc (t + j) htj
        have x1 : X * 256 + d < 18446744073709551616 := by omega
        have x3 : X * 256 < 18446744073709551616 := by omega
        have HN : Hid (wd.leV (vs.drop j) = X * 256 + d) := bl.hid (by omega)
        clear hX hnx hbl2 hXb hk hd hdd hcc
        go_wp2
        go_round
        case rel => first | exact ⟨j, by omega, bl.int_eq (by omega), bl.int_eq (by rw [HN.out])⟩ | ((repeat apply Exists.intro); refine ⟨⟨j, by omega, bl.int_eq (by omega), bl.int_eq (by rw [HN.out])⟩, ?_⟩; and_intros <;> rfl)
        case measure => simp [intOf]; try omega
      · have hd := T2.out j (by omega)
        rw [if_neg htj] at hd
        have x3 : X * 256 < 18446744073709551616 := by omega
        have HN : Hid (wd.leV (vs.drop j) = X * 256) := bl.hid (by omega)
        clear hX hnx hbl2 hXb hk hd
        go_wp2
        go_round
        case rel => first | exact ⟨j, by omega, bl.int_eq (by omega), bl.int_eq (by rw [HN.out])⟩ | ((repeat apply Exists.intro); refine ⟨⟨j, by omega, bl.int_eq (by omega), bl.int_eq (by rw [HN.out])⟩, ?_⟩; and_intros <;> rfl)
        case measure => simp [intOf]; try omega
set_option maxRecDepth 100000 in
set_option maxHeartbeats 800000 in
theorem apart_none (a : Option Addr) (len cap : Nat) (a1 a2 v : Int) (w : World) (h : len = 0 ∨ 100 < len) :
    Calls Try.prog 3 #[.slice a len cap, .int .i64 a1, .int .i64 a2, .int .u64 v] w fun e w' => e = .returned (.bool true) ∧ Below w.heap.size w w' := by
  rcases h with rfl | h
  · go_enter Try.func3, Try.ntmps3
    go_wp2_with fail
    refine (awake_true _).mono ?_
    rintro e w1 ⟨rfl, hb1⟩
    have hs1 := hb1.size
    go_wp2_with fail
    refine (made_ok 200 _ (by omega) (by omega)).mono ?_
    rintro e w2 ⟨p, g, rfl, hp, hg, -, hb⟩
    have hb2 := hb1.trans (hb.mono hs1)
    go_wp2
    go_ret
    exact ⟨rfl, hb2⟩
  · have hz : ((len : Int) == 0) = false := by simp; omega
    have hd : decide ((100 : Int) < (len : Int)) = true := decide_eq_true (by omega)
    go_enter Try.func3, Try.ntmps3
    go_wp2_with fail
    refine (awake_true _).mono ?_
    rintro e w1 ⟨rfl, hb1⟩
    have hs1 := hb1.size
    go_wp2_with fail
    refine (made_ok 200 _ (by omega) (by omega)).mono ?_
    rintro e w2 ⟨p, g, rfl, hp, hg, -, hb⟩
    have hb2 := hb1.trans (hb.mono hs1)
    go_wp2
    go_ret
    exact ⟨rfl, hb2⟩
theorem apart_walk (a0 : Option Addr) (len0 cap0 : Nat) (z0 : List Int) (a1 : Int) (a2 : Int) (a3 : Int) (w : World) (w0 : (a0 = none ∧ len0 = 0 ∧ cap0 = 0 ∧ z0 = []) ∨ ∃ x, a0 = some x ∧ len0 ≤ cap0 ∧ cap0 ≤ maxLen ∧ z0.length = cap0 ∧ (∀ i, i < z0.length → w.cell? (x.add i) = some (.int .u8 (z0.getD i 0))) ∧ ∀ n ∈ z0, (Lit.int .u8 n).wf = true) (w1 : (Lit.int .i64 a1).wf = true) (w2 : (Lit.int .i64 a2).wf = true) (w3 : (Lit.int .u64 a3).wf = true) :
    Calls Try.prog 3 #[.slice a0 len0 cap0, .int .i64 a1, .int .i64 a2, .int .u64 a3] w fun e w' => e = .returned (.bool true) ∧ Below w.heap.size w w' := by
  have hr := kt.Rd.come w0
  have b1 := bl.wf_i64 w1
  have b2 := bl.wf_i64 w2
  have b3 := bl.wf_u64 w3
  by_cases h : len0 = 0 ∨ 100 < len0
  · exact apart_none a0 len0 cap0 a1 a2 a3 w h
  · have hp := pl.pickV_bd a2 4 (by omega)
    have hk : pl.pickV a2 4 = 0 ∨ pl.pickV a2 4 = 1 ∨ pl.pickV a2 4 = 2 ∨ pl.pickV a2 4 = 3 := by omega
    rcases hk with hk | hk | hk | hk
    · exact apart_core1 a0 len0 cap0 _ a1 a2 a3 w hr (by omega) (by omega) b1.1 b1.2 b2.1 b2.2 b3.1 b3.2 hk
    · exact apart_core2 a0 len0 cap0 _ a1 a2 a3 w hr (by omega) (by omega) b1.1 b1.2 b2.1 b2.2 b3.1 b3.2 hk
    · exact apart_core4 a0 len0 cap0 _ a1 a2 a3 w hr (by omega) (by omega) b1.1 b1.2 b2.1 b2.2 b3.1 b3.2 hk
    · exact apart_core8 a0 len0 cap0 _ a1 a2 a3 w hr (by omega) (by omega) b1.1 b1.2 b2.1 b2.2 b3.1 b3.2 hk
end Go.Proofs.Ytkohmoekomegnaa
