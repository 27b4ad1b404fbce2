/- MemKeeps, walked at a size of 2 bytes. -/
import Derived.Test.YtkohmoekomegnaaMemKeep
namespace Go.Proofs.Ytkohmoekomegnaa
open Go.RowKit
set_option linter.unusedVariables false

set_option maxRecDepth 100000 in
set_option maxHeartbeats 6400000 in
theorem keeps_fit2 (a : Option Addr) (len cap s : Nat) (xs : Nat → kt.Act) (at' : Nat) (a0 a3 v : Int) (w : World) (h : kt.Acts w a len xs) (hlg : kt.longB len xs = false) (h40 : len ≤ 40) (hs : 16 + pl.pickV a0 200 = s) (hs0 : 16 ≤ s) (hs1 : s < 216)
    (p0 : -9223372036854775808 ≤ a0) (p1 : a0 ≤ 9223372036854775807) (q0 : -9223372036854775808 ≤ a3) (q1 : a3 ≤ 9223372036854775807) (v0 : 0 ≤ v) (v1 : v < 18446744073709551616) (hpk : pl.pickV a3 4 = 1) (t0 : 16 ≤ at') (t1 : at' + 2 ≤ s) :
    Calls Try.prog 5 #[.int .i64 a0, .slice a len cap, .int .u64 at', .int .i64 a3, .int .u64 v] w fun e w' => e = .returned (.bool true) ∧ Below w.heap.size w w' := by
  have H := bl.hid h
  have HP := bl.hid hpk
  have HG := bl.hid hlg
  obtain ⟨t, ht⟩ : ∃ t : Nat, pl.pickV a0 200 = t := ⟨(pl.pickV a0 200).toNat, by have := pl.pickV_bd a0 200 (by omega); omega⟩
  have hts : 16 + (t : Int) = s := by omega
  have HT := bl.hid ht
  have ht2 : t < 200 := by omega
  have h40b : decide ((40 : Int) < (len : Int)) = false := decide_eq_false (by omega)
  have hn1 : ((t : Int) == (s : Int) - 16) = true := by simp; omega
  have hn2 : ((t : Int) != (s : Int) - 16) = false := by simp; omega
  have hf3 : decide ((at' : Int) ≤ (s : Int) - 2) = true := decide_eq_true (by omega)
  clear h hpk hlg ht hs
  go_enter Try.func5, Try.ntmps5
  go_wp2_with fail
  refine (known_walk _).mono ?_
  rintro e w1 ⟨rfl, hb1⟩
  have hs1' := hb1.size
  go_wp2_with fail
  refine (pick_val a0 200 _ (by omega) (by omega) p0 p1).mono ?_
  rw [HT.out]
  rintro e w' ⟨rfl, rfl⟩
  go_wp2_with fail
  refine (made_ok s _ hs0 (by omega)).mono ?_
  rintro e w2 ⟨p, g, rfl, hp, hg, hm, hb⟩
  have hb2 := hb1.trans (hb.mono hs1')
  have hg0 : w.heap.size ≤ g := by omega
  have HK : Hid (KeepInv p g s w w2) := bl.hid ⟨_, List.length_replicate, hm, hb2⟩
  have H2 := bl.hid (H.out.keep hb2)
  clear hm hb hb1 hb2 hp hg hs1'
  go_wp2_with fail
  refine (long_any a len cap xs _ H2.out).mono ?_
  rw [HG.out]
  rintro e w' ⟨rfl, rfl⟩
  clear H2
  go_wp2
  go_loopw [13] (fun i wr => ∃ k : Nat, k ≤ len ∧ i = .int .i64 k ∧ KeepInv p g s w wr) (fun i _ => len - (intOf i).toNat)
  case atStart => exact ⟨0, by omega, rfl, HK.out⟩
  case round =>
    obtain ⟨k, hk, rfl, hinv⟩ := hrel
    clear HK
    by_cases hlt : k < len
    · have hd : decide (k < len) = true := decide_eq_true hlt
      obtain ⟨L, hLl, hm, hb⟩ := hinv
      obtain ⟨b, off, rfl, hcc⟩ := H.out.2.2.resolve_left (by omega)
      have hA := hcc k hlt
      have hok := H.out.2.1 k hlt
      obtain ⟨x, hx⟩ : ∃ x, xs k = x := ⟨_, rfl⟩
      rw [hx] at hA hok
      obtain ⟨kd, xn, xa, xv, ba, bn, bc, bs⟩ := x
      clear hx hcc
      obtain ⟨-, y1, y2, y3, -⟩ := hA.cells hb
      have xa0 : 0 ≤ xa := hok.a0.1
      have xa1 : xa < 18446744073709551616 := hok.a0.2
      have xv0 : 0 ≤ xv := hok.v0.1
      have xv1 : xv < 18446744073709551616 := hok.v0.2
      have hbm : bn ≤ 9223372036854775807 := hok.bm
      have HR : Hid (kt.Rd w ba bn bs) := bl.hid hok.rd
      have HM := bl.hid hm
      have HLl := bl.hid hLl
      have hs2 := hb.size
      clear hm hLl hok hk
      go_wp2
      refine wp_region_still_tail 16 (by kernel_rfl) (by kernel_rfl) ?_
      simp only [List.take_succ_cons, List.take_zero, List.drop_succ_cons, List.drop_zero]
      change wpStill _ _ (World.drew _) _ _ _
      repeat still_step
      refine wpStill_nil ?_
      change wpList _ _ _ _ _ (World.drew _)
      go_wp2_with fail
      refine (store_any p g xa xn xv L _ HM.out.drew xa0 xa1 xv0 xv1).mono ?_
      rintro e w9 ⟨rfl, hgr, hm9⟩
      have b9 : Below w.heap.size w w9 := hb.drew.trans (grown_below hgr hg0 hs2)
      have HM9 := bl.hid hm9
      have HL9 : Hid ((pl.stL L xa xn xv).length = s) := bl.hid (by rw [pl.stL_length]; exact HLl.out)
      have hs9 := b9.size
      clear hgr hm9 HM y1 y2 y3 hb hs2
      obtain ⟨-, -, c2, -, c4⟩ := hA.cells b9
      have HR9 := bl.hid (Rd_drew (HR.out.keep b9))
      go_wp2
      refine wp_region_still_tail 11 (by kernel_rfl) (by kernel_rfl) ?_
      simp only [List.take_succ_cons, List.take_zero, List.drop_succ_cons, List.drop_zero]
      change wpStill _ _ (World.drew _) _ _ _
      repeat still_step
      refine wpStill_nil ?_
      change wpList _ _ _ _ _ (World.drew _)
      go_wp2_with fail
      refine (lay_any p g xa bn bc ba bs _ _ HM9.out.drew HR9.out xa0 xa1 (by omega)).mono ?_
      rintro e w8 ⟨rfl, hgr, hm8⟩
      have HI : Hid (KeepInv p g s w w8) := bl.hid ⟨_, by rw [pl.layL_length]; exact HL9.out, hm8, b9.drew.trans (grown_below hgr hg0 hs9)⟩
      clear hgr hm8 HM9 HR9 HL9 c2 c4 b9 hs9
      have hk1 : k ≤ len - 1 := by omega
      go_wp2
      go_roundw
      case rel => first | exact ⟨k + 1, by omega, by go_num, HI.out⟩ | ((repeat apply Exists.intro); refine ⟨⟨k + 1, by omega, by go_num, HI.out⟩, ?_⟩; and_intros <;> rfl)
      case measure => simp [intOf]; omega
    · obtain rfl : k = len := by omega
      have hd : decide (k < k) = false := decide_eq_false (by omega)
      obtain ⟨L, hLl, hm, hb⟩ := hinv
      have HM := bl.hid hm
      have HLl := bl.hid hLl
      have hs2 := hb.size
      clear hm hLl hk hlt
      go_wp2_with fail
      refine (pick_val a3 4 _ (by omega) (by omega) q0 q1).mono ?_
      rw [HP.out]
      rintro e w' ⟨rfl, rfl⟩
      go_wp2_with fail
      refine (bytes_keep p g s t L _ HM.out HLl.out (by omega) hs1).mono ?_
      rintro e w3 ⟨aw, cw, rfl, hrw, haw, hb3⟩
      have HM3 := bl.hid (HM.out.keep hb3)
      have hgw : g < wr.heap.size := HM.out.lt.2
      have HAW : Hid (∀ ad, aw = some ad → ad.block ≠ g) := bl.hid fun ad e => by have := haw ad e; omega
      have HRW := bl.hid hrw
      have b3 := hb.trans (hb3.mono hs2)
      have s3 := b3.size
      clear HM hb hb3 haw hrw hs2 hgw
      go_wp2_with fail
      have P := pl.keep_fit L at' 2 v (by omega) t0 (by have := HLl.out; omega)
      obtain ⟨L2, hL2⟩ : ∃ L2, pl.lay L at' (wd.leB v 2) = L2 := ⟨_, rfl⟩
      have HEL : Hid (∀ j, (j < at' ∨ at' + 2 ≤ j) → L2.getD j 0 = L.getD j 0) := bl.hid fun j hj => by rw [← hL2]; exact pl.lay_else L at' _ j (by rw [wd.leB_length]; have := HLl.out; omega) (by rw [wd.leB_length]; exact hj)
      have HL2 : Hid (L2.length = s) := bl.hid (by rw [← hL2, pl.lay_length _ _ _ (by rw [wd.leB_length]; have := HLl.out; omega)]; exact HLl.out)
      rw [hL2] at P
      have HP4 : Hid (pl.ldE L (at' : Int) 2 = 0 ∧ pl.stL L (at' : Int) 2 v = L2 ∧ pl.ldE L2 (at' : Int) 2 = 0 ∧ pl.ldV L2 (at' : Int) 2 = v % 256 ^ 2) := bl.hid P
      clear P hL2
      refine (store_any p g at' 2 v L _ HM3.out (by omega) (by omega) v0 v1).mono ?_
      rintro e w4 ⟨rfl, hgr, hm⟩
      rw [HP4.out.1]
      rw [HP4.out.2.1] at hm
      have HM4 := bl.hid hm
      have HRW4 := bl.hid (Rd_grown HRW.out hgr HAW.out)
      have b4 := b3.trans (grown_below hgr hg0 s3)
      have s4 := b4.size
      clear hm hgr HM3 HRW b3 s3
      go_wp2_with fail
      refine (bytes_keep p g s t L2 _ HM4.out HL2.out (by omega) hs1).mono ?_
      rintro e w5 ⟨an, cn, rfl, hrn, -, hb5⟩
      have HM5 := bl.hid (HM4.out.keep hb5)
      have HRW5 := bl.hid (HRW4.out.keep hb5)
      have HRN5 := bl.hid hrn
      have b5 := b4.trans (hb5.mono s4)
      have s5 := b5.size
      clear hb5 hrn HM4 HRW4 b4 s4
      go_wp2
      go_loopw [20, 21] (fun i _ wz => ∃ k : Nat, k ≤ t ∧ i = .int .i64 k ∧ Below w5.heap.size w5 wz) (fun i _ _ => t - (intOf i).toNat)
      case atStart => exact ⟨0, by omega, rfl, Below.refl _ _⟩
      case round =>
        obtain ⟨j, hj, rfl, hbz⟩ := hrel
        by_cases hjt : j < t
        · have hd2 : decide (j < t) = true := decide_eq_true hjt
          obtain ⟨bw, ow, rfl, cw1⟩ := told_at (HRW5.out.keep hbz) j hjt
          obtain ⟨bq, oq, rfl, cn1⟩ := told_at (HRN5.out.keep hbz) j hjt
          obtain ⟨z, hz⟩ : ∃ z, L.getD (16 + j) 0 = z := ⟨_, rfl⟩
          obtain ⟨z', hz'⟩ : ∃ z, L2.getD (16 + j) 0 = z := ⟨_, rfl⟩
          rw [hz] at cw1
          rw [hz'] at cn1
          have HZ := bl.hid hz
          have HZ' := bl.hid hz'
          have hj1 : j ≤ t - 1 := by omega
          clear hz hz' hj
          have HNX : Hid (Below w5.heap.size w5 wr) := bl.hid hbz
          clear hbz
          have wa : IntKind.u64.wrap ((at' : Int) + 2) = (at' : Int) + 2 := by rw [IntKind.wrap_u64]; omega
          by_cases h1 : 16 + j < at'
          · obtain rfl : z' = z := by rw [← HZ'.out, ← HZ.out]; exact HEL.out _ (.inl h1)
            have d1 : decide ((16 : Int) + (j : Int) < (at' : Int)) = true := decide_eq_true (by omega)
            go_wp2
            go_quiet (fail)
            go_wp2
            go_roundw
            case rel => first | exact ⟨j + 1, by omega, by go_num, HNX.out.drewN' _⟩ | ((repeat apply Exists.intro); refine ⟨⟨j + 1, by omega, by go_num, HNX.out.drewN' _⟩, ?_⟩; and_intros <;> rfl)
            case measure => simp [intOf]; omega
          · by_cases h2 : at' + 2 ≤ 16 + j
            · obtain rfl : z' = z := by rw [← HZ'.out, ← HZ.out]; exact HEL.out _ (.inr h2)
              have d1 : decide ((16 : Int) + (j : Int) < (at' : Int)) = false := decide_eq_false (by omega)
              have d2 : decide ((at' : Int) + 2 ≤ (16 : Int) + (j : Int)) = true := decide_eq_true (by omega)
              go_wp2
              go_quiet (fail)
              go_wp2
              go_roundw
              case rel => first | exact ⟨j + 1, by omega, by go_num, HNX.out.drewN' _⟩ | ((repeat apply Exists.intro); refine ⟨⟨j + 1, by omega, by go_num, HNX.out.drewN' _⟩, ?_⟩; and_intros <;> rfl)
              case measure => simp [intOf]; omega
            · have d1 : decide ((16 : Int) + (j : Int) < (at' : Int)) = false := decide_eq_false (by omega)
              have d2 : decide ((at' : Int) + 2 ≤ (16 : Int) + (j : Int)) = false := decide_eq_false (by omega)
              go_wp2
              go_quiet (fail)
              go_wp2
              go_roundw
              case rel => first | exact ⟨j + 1, by omega, by go_num, HNX.out.drewN' _⟩ | ((repeat apply Exists.intro); refine ⟨⟨j + 1, by omega, by go_num, HNX.out.drewN' _⟩, ?_⟩; and_intros <;> rfl)
              case measure => simp [intOf]; omega
        · obtain rfl : j = t := by omega
          have hd2 : decide (j < j) = false := decide_eq_false (by omega)
          have HMZ := bl.hid (HM5.out.keep hbz)
          have bz := b5.trans (hbz.mono s5)
          have sz := bz.size
          clear hbz HM5
          go_wp2_with fail
          refine (cut2 v _ v0 v1).mono ?_
          rintro e w' ⟨rfl, rfl⟩
          obtain ⟨Y, hY⟩ : ∃ Y, v % 256 ^ 2 = Y := ⟨_, rfl⟩
          rw [hY]
          have HY := bl.hid hY
          clear hY
          go_wp2_with fail
          refine (loads_yes p g at' 2 Y L2 _ HMZ.out (by omega) (by omega) HP4.out.2.2.1 (HP4.out.2.2.2.trans HY.out)).mono ?_
          rintro e w6 ⟨rfl, hb6⟩
          have b6 := bz.trans (hb6.mono sz)
          clear hb6
          go_wp2
          go_ret
          exact ⟨rfl, b6⟩
set_option maxRecDepth 100000 in
set_option maxHeartbeats 6400000 in
theorem keeps_low2 (a : Option Addr) (len cap s : Nat) (xs : Nat → kt.Act) (at' : Int) (a0 a3 v : Int) (w : World) (h : kt.Acts w a len xs) (hlg : kt.longB len xs = false) (h40 : len ≤ 40) (hs : 16 + pl.pickV a0 200 = s) (hs0 : 16 ≤ s) (hs1 : s < 216)
    (p0 : -9223372036854775808 ≤ a0) (p1 : a0 ≤ 9223372036854775807) (q0 : -9223372036854775808 ≤ a3) (q1 : a3 ≤ 9223372036854775807) (v0 : 0 ≤ v) (v1 : v < 18446744073709551616) (hpk : pl.pickV a3 4 = 1) (u0 : 0 ≤ at') (u1 : at' < 18446744073709551616) (u2 : at' < 16) :
    Calls Try.prog 5 #[.int .i64 a0, .slice a len cap, .int .u64 at', .int .i64 a3, .int .u64 v] w fun e w' => e = .returned (.bool true) ∧ Below w.heap.size w w' := by
  have H := bl.hid h
  have HP := bl.hid hpk
  have HG := bl.hid hlg
  obtain ⟨t, ht⟩ : ∃ t : Nat, pl.pickV a0 200 = t := ⟨(pl.pickV a0 200).toNat, by have := pl.pickV_bd a0 200 (by omega); omega⟩
  have hts : 16 + (t : Int) = s := by omega
  have HT := bl.hid ht
  have ht2 : t < 200 := by omega
  have h40b : decide ((40 : Int) < (len : Int)) = false := decide_eq_false (by omega)
  have hn1 : ((t : Int) == (s : Int) - 16) = true := by simp; omega
  have hn2 : ((t : Int) != (s : Int) - 16) = false := by simp; omega
  have hf3 : decide ((16 : Int) ≤ at') = false := decide_eq_false (by omega)
  clear h hpk hlg ht hs
  go_enter Try.func5, Try.ntmps5
  go_wp2_with fail
  refine (known_walk _).mono ?_
  rintro e w1 ⟨rfl, hb1⟩
  have hs1' := hb1.size
  go_wp2_with fail
  refine (pick_val a0 200 _ (by omega) (by omega) p0 p1).mono ?_
  rw [HT.out]
  rintro e w' ⟨rfl, rfl⟩
  go_wp2_with fail
  refine (made_ok s _ hs0 (by omega)).mono ?_
  rintro e w2 ⟨p, g, rfl, hp, hg, hm, hb⟩
  have hb2 := hb1.trans (hb.mono hs1')
  have hg0 : w.heap.size ≤ g := by omega
  have HK : Hid (KeepInv p g s w w2) := bl.hid ⟨_, List.length_replicate, hm, hb2⟩
  have H2 := bl.hid (H.out.keep hb2)
  clear hm hb hb1 hb2 hp hg hs1'
  go_wp2_with fail
  refine (long_any a len cap xs _ H2.out).mono ?_
  rw [HG.out]
  rintro e w' ⟨rfl, rfl⟩
  clear H2
  go_wp2
  go_loopw [13] (fun i wr => ∃ k : Nat, k ≤ len ∧ i = .int .i64 k ∧ KeepInv p g s w wr) (fun i _ => len - (intOf i).toNat)
  case atStart => exact ⟨0, by omega, rfl, HK.out⟩
  case round =>
    obtain ⟨k, hk, rfl, hinv⟩ := hrel
    clear HK
    by_cases hlt : k < len
    · have hd : decide (k < len) = true := decide_eq_true hlt
      obtain ⟨L, hLl, hm, hb⟩ := hinv
      obtain ⟨b, off, rfl, hcc⟩ := H.out.2.2.resolve_left (by omega)
      have hA := hcc k hlt
      have hok := H.out.2.1 k hlt
      obtain ⟨x, hx⟩ : ∃ x, xs k = x := ⟨_, rfl⟩
      rw [hx] at hA hok
      obtain ⟨kd, xn, xa, xv, ba, bn, bc, bs⟩ := x
      clear hx hcc
      obtain ⟨-, y1, y2, y3, -⟩ := hA.cells hb
      have xa0 : 0 ≤ xa := hok.a0.1
      have xa1 : xa < 18446744073709551616 := hok.a0.2
      have xv0 : 0 ≤ xv := hok.v0.1
      have xv1 : xv < 18446744073709551616 := hok.v0.2
      have hbm : bn ≤ 9223372036854775807 := hok.bm
      have HR : Hid (kt.Rd w ba bn bs) := bl.hid hok.rd
      have HM := bl.hid hm
      have HLl := bl.hid hLl
      have hs2 := hb.size
      clear hm hLl hok hk
      go_wp2
      refine wp_region_still_tail 16 (by kernel_rfl) (by kernel_rfl) ?_
      simp only [List.take_succ_cons, List.take_zero, List.drop_succ_cons, List.drop_zero]
      change wpStill _ _ (World.drew _) _ _ _
      repeat still_step
      refine wpStill_nil ?_
      change wpList _ _ _ _ _ (World.drew _)
      go_wp2_with fail
      refine (store_any p g xa xn xv L _ HM.out.drew xa0 xa1 xv0 xv1).mono ?_
      rintro e w9 ⟨rfl, hgr, hm9⟩
      have b9 : Below w.heap.size w w9 := hb.drew.trans (grown_below hgr hg0 hs2)
      have HM9 := bl.hid hm9
      have HL9 : Hid ((pl.stL L xa xn xv).length = s) := bl.hid (by rw [pl.stL_length]; exact HLl.out)
      have hs9 := b9.size
      clear hgr hm9 HM y1 y2 y3 hb hs2
      obtain ⟨-, -, c2, -, c4⟩ := hA.cells b9
      have HR9 := bl.hid (Rd_drew (HR.out.keep b9))
      go_wp2
      refine wp_region_still_tail 11 (by kernel_rfl) (by kernel_rfl) ?_
      simp only [List.take_succ_cons, List.take_zero, List.drop_succ_cons, List.drop_zero]
      change wpStill _ _ (World.drew _) _ _ _
      repeat still_step
      refine wpStill_nil ?_
      change wpList _ _ _ _ _ (World.drew _)
      go_wp2_with fail
      refine (lay_any p g xa bn bc ba bs _ _ HM9.out.drew HR9.out xa0 xa1 (by omega)).mono ?_
      rintro e w8 ⟨rfl, hgr, hm8⟩
      have HI : Hid (KeepInv p g s w w8) := bl.hid ⟨_, by rw [pl.layL_length]; exact HL9.out, hm8, b9.drew.trans (grown_below hgr hg0 hs9)⟩
      clear hgr hm8 HM9 HR9 HL9 c2 c4 b9 hs9
      have hk1 : k ≤ len - 1 := by omega
      go_wp2
      go_roundw
      case rel => first | exact ⟨k + 1, by omega, by go_num, HI.out⟩ | ((repeat apply Exists.intro); refine ⟨⟨k + 1, by omega, by go_num, HI.out⟩, ?_⟩; and_intros <;> rfl)
      case measure => simp [intOf]; omega
    · obtain rfl : k = len := by omega
      have hd : decide (k < k) = false := decide_eq_false (by omega)
      obtain ⟨L, hLl, hm, hb⟩ := hinv
      have HM := bl.hid hm
      have HLl := bl.hid hLl
      have hs2 := hb.size
      clear hm hLl hk hlt
      go_wp2_with fail
      refine (pick_val a3 4 _ (by omega) (by omega) q0 q1).mono ?_
      rw [HP.out]
      rintro e w' ⟨rfl, rfl⟩
      go_wp2_with fail
      refine (bytes_keep p g s t L _ HM.out HLl.out (by omega) hs1).mono ?_
      rintro e w3 ⟨aw, cw, rfl, hrw, haw, hb3⟩
      have HM3 := bl.hid (HM.out.keep hb3)
      have hgw : g < wr.heap.size := HM.out.lt.2
      have HAW : Hid (∀ ad, aw = some ad → ad.block ≠ g) := bl.hid fun ad e => by have := haw ad e; omega
      have HRW := bl.hid hrw
      have b3 := hb.trans (hb3.mono hs2)
      have s3 := b3.size
      clear HM hb hb3 haw hrw hs2 hgw
      go_wp2_with fail
      have P := pl.keep_no L at' v 2 (by omega) (by have := HLl.out; omega)
      have HP4 : Hid (pl.ldE L at' 2 = 15 ∧ pl.stL L at' 2 v = L ∧ pl.ldV L at' 2 = 0) := bl.hid P
      clear P
      have HL2 := HLl
      obtain ⟨L2, hL2⟩ : ∃ L2, L = L2 := ⟨_, rfl⟩
      have HEL : Hid (L2 = L) := bl.hid hL2.symm
      refine (store_any p g at' 2 v L _ HM3.out u0 u1 v0 v1).mono ?_
      rintro e w4 ⟨rfl, hgr, hm⟩
      rw [HP4.out.1]
      rw [HP4.out.2.1, hL2] at hm
      rw [hL2] at HL2
      clear hL2
      have HM4 := bl.hid hm
      have HRW4 := bl.hid (Rd_grown HRW.out hgr HAW.out)
      have b4 := b3.trans (grown_below hgr hg0 s3)
      have s4 := b4.size
      clear hm hgr HM3 HRW b3 s3
      go_wp2_with fail
      refine (bytes_keep p g s t L2 _ HM4.out HL2.out (by omega) hs1).mono ?_
      rintro e w5 ⟨an, cn, rfl, hrn, -, hb5⟩
      have HM5 := bl.hid (HM4.out.keep hb5)
      have HRW5 := bl.hid (HRW4.out.keep hb5)
      have HRN5 := bl.hid hrn
      have b5 := b4.trans (hb5.mono s4)
      have s5 := b5.size
      clear hb5 hrn HM4 HRW4 b4 s4
      go_wp2
      go_loopw [20, 21] (fun i _ wz => ∃ k : Nat, k ≤ t ∧ i = .int .i64 k ∧ Below w5.heap.size w5 wz) (fun i _ _ => t - (intOf i).toNat)
      case atStart => exact ⟨0, by omega, rfl, Below.refl _ _⟩
      case round =>
        obtain ⟨j, hj, rfl, hbz⟩ := hrel
        by_cases hjt : j < t
        · have hd2 : decide (j < t) = true := decide_eq_true hjt
          obtain ⟨bw, ow, rfl, cw1⟩ := told_at (HRW5.out.keep hbz) j hjt
          obtain ⟨bq, oq, rfl, cn1⟩ := told_at (HRN5.out.keep hbz) j hjt
          obtain ⟨z, hz⟩ : ∃ z, L.getD (16 + j) 0 = z := ⟨_, rfl⟩
          obtain ⟨z', hz'⟩ : ∃ z, L2.getD (16 + j) 0 = z := ⟨_, rfl⟩
          rw [hz] at cw1
          rw [hz'] at cn1
          have HZ := bl.hid hz
          have HZ' := bl.hid hz'
          have hj1 : j ≤ t - 1 := by omega
          clear hz hz' hj
          have HNX : Hid (Below w5.heap.size w5 wr) := bl.hid hbz
          clear hbz
          obtain rfl : z' = z := by rw [← HZ'.out, ← HZ.out, HEL.out]
          go_wp2
          go_quiet (fail)
          go_wp2
          go_roundw
          case rel => first | exact ⟨j + 1, by omega, by go_num, HNX.out.drewN' _⟩ | ((repeat apply Exists.intro); refine ⟨⟨j + 1, by omega, by go_num, HNX.out.drewN' _⟩, ?_⟩; and_intros <;> rfl)
          case measure => simp [intOf]; omega
        · obtain rfl : j = t := by omega
          have hd2 : decide (j < j) = false := decide_eq_false (by omega)
          have HMZ := bl.hid (HM5.out.keep hbz)
          have bz := b5.trans (hbz.mono s5)
          have sz := bz.size
          clear hbz HM5
          go_wp2_with fail
          refine (fails_yes p g at' 2 15 L2 _ HMZ.out u0 u1 (by rw [HEL.out]; exact HP4.out.1) (by rw [HEL.out]; exact HP4.out.2.2)).mono ?_
          rintro e w6 ⟨rfl, hb6⟩
          have b6 := bz.trans (hb6.mono sz)
          clear hb6
          go_wp2
          go_ret
          exact ⟨rfl, b6⟩
set_option maxRecDepth 100000 in
set_option maxHeartbeats 6400000 in
theorem keeps_high2 (a : Option Addr) (len cap s : Nat) (xs : Nat → kt.Act) (at' : Int) (a0 a3 v : Int) (w : World) (h : kt.Acts w a len xs) (hlg : kt.longB len xs = false) (h40 : len ≤ 40) (hs : 16 + pl.pickV a0 200 = s) (hs0 : 16 ≤ s) (hs1 : s < 216)
    (p0 : -9223372036854775808 ≤ a0) (p1 : a0 ≤ 9223372036854775807) (q0 : -9223372036854775808 ≤ a3) (q1 : a3 ≤ 9223372036854775807) (v0 : 0 ≤ v) (v1 : v < 18446744073709551616) (hpk : pl.pickV a3 4 = 1) (u0 : 0 ≤ at') (u1 : at' < 18446744073709551616) (u2 : 16 ≤ at') (u3 : (s : Int) < at' + 2) :
    Calls Try.prog 5 #[.int .i64 a0, .slice a len cap, .int .u64 at', .int .i64 a3, .int .u64 v] w fun e w' => e = .returned (.bool true) ∧ Below w.heap.size w w' := by
  have H := bl.hid h
  have HP := bl.hid hpk
  have HG := bl.hid hlg
  obtain ⟨t, ht⟩ : ∃ t : Nat, pl.pickV a0 200 = t := ⟨(pl.pickV a0 200).toNat, by have := pl.pickV_bd a0 200 (by omega); omega⟩
  have hts : 16 + (t : Int) = s := by omega
  have HT := bl.hid ht
  have ht2 : t < 200 := by omega
  have h40b : decide ((40 : Int) < (len : Int)) = false := decide_eq_false (by omega)
  have hn1 : ((t : Int) == (s : Int) - 16) = true := by simp; omega
  have hn2 : ((t : Int) != (s : Int) - 16) = false := by simp; omega
  have hf3 : decide (at' ≤ (s : Int) - 2) = false := decide_eq_false (by omega)
  clear h hpk hlg ht hs
  go_enter Try.func5, Try.ntmps5
  go_wp2_with fail
  refine (known_walk _).mono ?_
  rintro e w1 ⟨rfl, hb1⟩
  have hs1' := hb1.size
  go_wp2_with fail
  refine (pick_val a0 200 _ (by omega) (by omega) p0 p1).mono ?_
  rw [HT.out]
  rintro e w' ⟨rfl, rfl⟩
  go_wp2_with fail
  refine (made_ok s _ hs0 (by omega)).mono ?_
  rintro e w2 ⟨p, g, rfl, hp, hg, hm, hb⟩
  have hb2 := hb1.trans (hb.mono hs1')
  have hg0 : w.heap.size ≤ g := by omega
  have HK : Hid (KeepInv p g s w w2) := bl.hid ⟨_, List.length_replicate, hm, hb2⟩
  have H2 := bl.hid (H.out.keep hb2)
  clear hm hb hb1 hb2 hp hg hs1'
  go_wp2_with fail
  refine (long_any a len cap xs _ H2.out).mono ?_
  rw [HG.out]
  rintro e w' ⟨rfl, rfl⟩
  clear H2
  go_wp2
  go_loopw [13] (fun i wr => ∃ k : Nat, k ≤ len ∧ i = .int .i64 k ∧ KeepInv p g s w wr) (fun i _ => len - (intOf i).toNat)
  case atStart => exact ⟨0, by omega, rfl, HK.out⟩
  case round =>
    obtain ⟨k, hk, rfl, hinv⟩ := hrel
    clear HK
    by_cases hlt : k < len
    · have hd : decide (k < len) = true := decide_eq_true hlt
      obtain ⟨L, hLl, hm, hb⟩ := hinv
      obtain ⟨b, off, rfl, hcc⟩ := H.out.2.2.resolve_left (by omega)
      have hA := hcc k hlt
      have hok := H.out.2.1 k hlt
      obtain ⟨x, hx⟩ : ∃ x, xs k = x := ⟨_, rfl⟩
      rw [hx] at hA hok
      obtain ⟨kd, xn, xa, xv, ba, bn, bc, bs⟩ := x
      clear hx hcc
      obtain ⟨-, y1, y2, y3, -⟩ := hA.cells hb
      have xa0 : 0 ≤ xa := hok.a0.1
      have xa1 : xa < 18446744073709551616 := hok.a0.2
      have xv0 : 0 ≤ xv := hok.v0.1
      have xv1 : xv < 18446744073709551616 := hok.v0.2
      have hbm : bn ≤ 9223372036854775807 := hok.bm
      have HR : Hid (kt.Rd w ba bn bs) := bl.hid hok.rd
      have HM := bl.hid hm
      have HLl := bl.hid hLl
      have hs2 := hb.size
      clear hm hLl hok hk
      go_wp2
      refine wp_region_still_tail 16 (by kernel_rfl) (by kernel_rfl) ?_
      simp only [List.take_succ_cons, List.take_zero, List.drop_succ_cons, List.drop_zero]
      change wpStill _ _ (World.drew _) _ _ _
      repeat still_step
      refine wpStill_nil ?_
      change wpList _ _ _ _ _ (World.drew _)
      go_wp2_with fail
      refine (store_any p g xa xn xv L _ HM.out.drew xa0 xa1 xv0 xv1).mono ?_
      rintro e w9 ⟨rfl, hgr, hm9⟩
      have b9 : Below w.heap.size w w9 := hb.drew.trans (grown_below hgr hg0 hs2)
      have HM9 := bl.hid hm9
      have HL9 : Hid ((pl.stL L xa xn xv).length = s) := bl.hid (by rw [pl.stL_length]; exact HLl.out)
      have hs9 := b9.size
      clear hgr hm9 HM y1 y2 y3 hb hs2
      obtain ⟨-, -, c2, -, c4⟩ := hA.cells b9
      have HR9 := bl.hid (Rd_drew (HR.out.keep b9))
      go_wp2
      refine wp_region_still_tail 11 (by kernel_rfl) (by kernel_rfl) ?_
      simp only [List.take_succ_cons, List.take_zero, List.drop_succ_cons, List.drop_zero]
      change wpStill _ _ (World.drew _) _ _ _
      repeat still_step
      refine wpStill_nil ?_
      change wpList _ _ _ _ _ (World.drew _)
      go_wp2_with fail
      refine (lay_any p g xa bn bc ba bs _ _ HM9.out.drew HR9.out xa0 xa1 (by omega)).mono ?_
      rintro e w8 ⟨rfl, hgr, hm8⟩
      have HI : Hid (KeepInv p g s w w8) := bl.hid ⟨_, by rw [pl.layL_length]; exact HL9.out, hm8, b9.drew.trans (grown_below hgr hg0 hs9)⟩
      clear hgr hm8 HM9 HR9 HL9 c2 c4 b9 hs9
      have hk1 : k ≤ len - 1 := by omega
      go_wp2
      go_roundw
      case rel => first | exact ⟨k + 1, by omega, by go_num, HI.out⟩ | ((repeat apply Exists.intro); refine ⟨⟨k + 1, by omega, by go_num, HI.out⟩, ?_⟩; and_intros <;> rfl)
      case measure => simp [intOf]; omega
    · obtain rfl : k = len := by omega
      have hd : decide (k < k) = false := decide_eq_false (by omega)
      obtain ⟨L, hLl, hm, hb⟩ := hinv
      have HM := bl.hid hm
      have HLl := bl.hid hLl
      have hs2 := hb.size
      clear hm hLl hk hlt
      go_wp2_with fail
      refine (pick_val a3 4 _ (by omega) (by omega) q0 q1).mono ?_
      rw [HP.out]
      rintro e w' ⟨rfl, rfl⟩
      go_wp2_with fail
      refine (bytes_keep p g s t L _ HM.out HLl.out (by omega) hs1).mono ?_
      rintro e w3 ⟨aw, cw, rfl, hrw, haw, hb3⟩
      have HM3 := bl.hid (HM.out.keep hb3)
      have hgw : g < wr.heap.size := HM.out.lt.2
      have HAW : Hid (∀ ad, aw = some ad → ad.block ≠ g) := bl.hid fun ad e => by have := haw ad e; omega
      have HRW := bl.hid hrw
      have b3 := hb.trans (hb3.mono hs2)
      have s3 := b3.size
      clear HM hb hb3 haw hrw hs2 hgw
      go_wp2_with fail
      have P := pl.keep_no L at' v 2 (by omega) (by have := HLl.out; omega)
      have HP4 : Hid (pl.ldE L at' 2 = 15 ∧ pl.stL L at' 2 v = L ∧ pl.ldV L at' 2 = 0) := bl.hid P
      clear P
      have HL2 := HLl
      obtain ⟨L2, hL2⟩ : ∃ L2, L = L2 := ⟨_, rfl⟩
      have HEL : Hid (L2 = L) := bl.hid hL2.symm
      refine (store_any p g at' 2 v L _ HM3.out u0 u1 v0 v1).mono ?_
      rintro e w4 ⟨rfl, hgr, hm⟩
      rw [HP4.out.1]
      rw [HP4.out.2.1, hL2] at hm
      rw [hL2] at HL2
      clear hL2
      have HM4 := bl.hid hm
      have HRW4 := bl.hid (Rd_grown HRW.out hgr HAW.out)
      have b4 := b3.trans (grown_below hgr hg0 s3)
      have s4 := b4.size
      clear hm hgr HM3 HRW b3 s3
      go_wp2_with fail
      refine (bytes_keep p g s t L2 _ HM4.out HL2.out (by omega) hs1).mono ?_
      rintro e w5 ⟨an, cn, rfl, hrn, -, hb5⟩
      have HM5 := bl.hid (HM4.out.keep hb5)
      have HRW5 := bl.hid (HRW4.out.keep hb5)
      have HRN5 := bl.hid hrn
      have b5 := b4.trans (hb5.mono s4)
      have s5 := b5.size
      clear hb5 hrn HM4 HRW4 b4 s4
      go_wp2
      go_loopw [20, 21] (fun i _ wz => ∃ k : Nat, k ≤ t ∧ i = .int .i64 k ∧ Below w5.heap.size w5 wz) (fun i _ _ => t - (intOf i).toNat)
      case atStart => exact ⟨0, by omega, rfl, Below.refl _ _⟩
      case round =>
        obtain ⟨j, hj, rfl, hbz⟩ := hrel
        by_cases hjt : j < t
        · have hd2 : decide (j < t) = true := decide_eq_true hjt
          obtain ⟨bw, ow, rfl, cw1⟩ := told_at (HRW5.out.keep hbz) j hjt
          obtain ⟨bq, oq, rfl, cn1⟩ := told_at (HRN5.out.keep hbz) j hjt
          obtain ⟨z, hz⟩ : ∃ z, L.getD (16 + j) 0 = z := ⟨_, rfl⟩
          obtain ⟨z', hz'⟩ : ∃ z, L2.getD (16 + j) 0 = z := ⟨_, rfl⟩
          rw [hz] at cw1
          rw [hz'] at cn1
          have HZ := bl.hid hz
          have HZ' := bl.hid hz'
          have hj1 : j ≤ t - 1 := by omega
          clear hz hz' hj
          have HNX : Hid (Below w5.heap.size w5 wr) := bl.hid hbz
          clear hbz
          obtain rfl : z' = z := by rw [← HZ'.out, ← HZ.out, HEL.out]
          go_wp2
          go_quiet (fail)
          go_wp2
          go_roundw
          case rel => first | exact ⟨j + 1, by omega, by go_num, HNX.out.drewN' _⟩ | ((repeat apply Exists.intro); refine ⟨⟨j + 1, by omega, by go_num, HNX.out.drewN' _⟩, ?_⟩; and_intros <;> rfl)
          case measure => simp [intOf]; omega
        · obtain rfl : j = t := by omega
          have hd2 : decide (j < j) = false := decide_eq_false (by omega)
          have HMZ := bl.hid (HM5.out.keep hbz)
          have bz := b5.trans (hbz.mono s5)
          have sz := bz.size
          clear hbz HM5
          go_wp2_with fail
          refine (fails_yes p g at' 2 15 L2 _ HMZ.out u0 u1 (by rw [HEL.out]; exact HP4.out.1) (by rw [HEL.out]; exact HP4.out.2.2)).mono ?_
          rintro e w6 ⟨rfl, hb6⟩
          have b6 := bz.trans (hb6.mono sz)
          clear hb6
          go_wp2
          go_ret
          exact ⟨rfl, b6⟩
end Go.Proofs.Ytkohmoekomegnaa
