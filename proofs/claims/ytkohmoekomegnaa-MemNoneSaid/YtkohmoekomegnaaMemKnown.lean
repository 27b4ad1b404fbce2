/- MemKnown, walked: it returns true. -/
import Derived.Test.YtkohmoekomegnaaMemLaw
namespace Go.Proofs.Ytkohmoekomegnaa
open Go.RowKit
set_option linter.unusedVariables false

namespace pl
theorem kn_a : byL ex1 16 2 = [4, 3] := by decide
theorem kn_b : byE ex1 16 2 = 0 := by decide
theorem kn_c : ldE ex1 25 8 = 15 := by decide
theorem kn_d : ldV ex1 25 8 = 0 := by decide
theorem kn_e : ldE ex1 24 8 = 0 := by decide
theorem kn_f : ldV ex1 24 8 = 0 := by decide
theorem kn_g : ldE ex1 18446744073709551615 8 = 15 := by decide
theorem kn_h : ldV ex1 18446744073709551615 8 = 0 := by decide
theorem kn_i : ldE ex1 16 3 = 2 := by decide
theorem kn_j : ldV ex1 16 3 = 0 := by decide
theorem kn_k : ldE ex1 30 4 = 15 := by decide
theorem kn_l : stL ex1 30 4 0 = ex1 := by decide
def ex2 : List Int := layL ex1 30 [7, 8]
theorem kn_m : layE ex1 30 ([7, 8] : List Int).length = 0 := by decide
theorem kn_n : layE ex2 31 ([7, 8] : List Int).length = 15 := by decide
theorem kn_o : layL ex2 31 [7, 8] = ex2 := by decide
theorem kn_p : ldE ex2 30 2 = 0 := by decide
theorem kn_q : ldV ex2 30 2 = 2055 := by decide
theorem kn_r : byL ex2 32 0 = [] := by decide
theorem kn_s : byE ex2 32 0 = 0 := by decide
theorem kn_t : byL ex2 33 0 = [] := by decide
theorem kn_u : byE ex2 33 0 = 15 := by decide
end pl
theorem rd_two (w : World) (x y : Int) (x0 : 0 ≤ x) (x1 : x < 256) (y0 : 0 ≤ y) (y1 : y < 256) : kt.Rd (w.alloc (.cells #[.int .u8 x, .int .u8 y] 5)) (some ⟨w.heap.size, 0, none⟩) 2 [x, y] :=
  ⟨rfl, by intro z hz; simp at hz; omega, .inr ⟨_, _, rfl, fun i hi => by rw [Nat.zero_add, World.cell?_alloc_new]; match i, hi with | 0, _ => rfl | 1, _ => rfl⟩⟩
theorem msame_yes (p g p' g' : Nat) (l l' : List Int) (w : World) (h : IsMem w p g l) (h' : IsMem w p' g' l') (e : l = l') :
    Calls Try.prog 13 #[.pointer (some ⟨p, 0, none⟩), .pointer (some ⟨p', 0, none⟩)] w fun e w' => e = .returned (.bool true) ∧ Below w.heap.size w w' := by
  have := msame_any p g p' g' l l' w h h'
  rwa [decide_eq_true e] at this
set_option maxRecDepth 100000 in
set_option maxHeartbeats 3200000 in
theorem known_walk (w : World) : Calls Try.prog 4 #[] w fun e w' => e = .returned (.bool true) ∧ Below w.heap.size w w' := by
  go_enter Try.func4, Try.ntmps4
  go_wp2_with fail
  refine (made_ok 32 _ (by omega) (by omega)).mono ?_
  rintro e w1 ⟨p, g, rfl, hp, hg, hm, hb1⟩
  have HM1 := bl.hid hm
  have hs1 := hb1.size
  clear hm
  go_wp2_with fail
  refine (store_any p g 16 4 16909060 _ _ HM1.out (by omega) (by omega) (by omega) (by omega)).mono ?_
  rintro e w2 ⟨rfl, hgr, hm⟩
  rw [pl.ex1_0]
  have HM2 : Hid (IsMem w2 p g pl.ex1) := bl.hid hm
  have hb2 := hb1.trans (grown_below hgr hg hs1)
  have hs2 := hb2.size
  clear HM1 hgr hm hb1 hs1
  go_wp2_with fail
  refine (bytes_any p g 16 2 _ _ HM2.out (by omega) (by omega) (by omega)).mono ?_
  rw [pl.kn_a, pl.kn_b]
  rintro e w3 ⟨a3, c3, rfl, hown, hb⟩
  have HM3 := bl.hid (HM2.out.keep hb)
  have hb3 := hb2.trans (hb.mono hs2)
  have hs3 := hb3.size
  have hrd := (Rd_own (by intro z hz; simp at hz; omega) hown).keep (kt.below_row (.cells #[.int .u8 4, .int .u8 3] 5))
  have HRD := bl.hid hrd
  clear HM2 hb hb2 hs2 hown hrd
  have HA := bl.hid (HM3.out.keep (kt.below_row (.cells #[.int .u8 4, .int .u8 3] 5)))
  have HL := bl.hid (rd_two w3 4 3 (by omega) (by omega) (by omega) (by omega))
  have hba := hb3.alloc hs3 (.cells #[.int .u8 4, .int .u8 3] 5)
  have hsa := hba.size
  go_wp2_with fail
  refine (same_yes _ _ _ _ _ _ _ _ _ HRD.out HL.out rfl).mono ?_
  rintro e w' ⟨rfl, rfl⟩
  clear HRD HL HM3 hb3 hs3
  have HM4 := HA
  have hb4 := hba
  have hs4 := hsa
  clear HA hba hsa
  go_wp2_with fail
  refine (fails_yes p g 25 8 15 _ _ HM4.out (by omega) (by omega) pl.kn_c pl.kn_d).mono ?_
  rintro e w5 ⟨rfl, hb⟩
  have HM5 := bl.hid (HM4.out.keep hb)
  have hb5 := hb4.trans (hb.mono hs4)
  have hs5 := hb5.size
  clear HM4 hb hb4 hs4
  go_wp2_with fail
  refine (loads_yes p g 24 8 0 _ _ HM5.out (by omega) (by omega) pl.kn_e pl.kn_f).mono ?_
  rintro e w6 ⟨rfl, hb⟩
  have HM6 := bl.hid (HM5.out.keep hb)
  have hb6 := hb5.trans (hb.mono hs5)
  have hs6 := hb6.size
  clear HM5 hb hb5 hs5
  go_wp2_with fail
  refine (fails_yes p g 18446744073709551615 8 15 _ _ HM6.out (by omega) (by omega) pl.kn_g pl.kn_h).mono ?_
  rintro e w7 ⟨rfl, hb⟩
  have HM7 := bl.hid (HM6.out.keep hb)
  have hb7 := hb6.trans (hb.mono hs6)
  have hs7 := hb7.size
  clear HM6 hb hb6 hs6
  go_wp2_with fail
  refine (fails_yes p g 16 3 2 _ _ HM7.out (by omega) (by omega) pl.kn_i pl.kn_j).mono ?_
  rintro e w8 ⟨rfl, hb⟩
  have HM8 := bl.hid (HM7.out.keep hb)
  have hb8 := hb7.trans (hb.mono hs7)
  have hs8 := hb8.size
  clear HM7 hb hb7 hs7
  go_wp2_with fail
  refine (store_any p g 30 4 0 _ _ HM8.out (by omega) (by omega) (by omega) (by omega)).mono ?_
  rintro e w9 ⟨rfl, hgr, hm⟩
  rw [pl.kn_k]
  rw [pl.kn_l] at hm
  have HM9 : Hid (IsMem w9 p g pl.ex1) := bl.hid hm
  have hb9 := hb8.trans (grown_below hgr hg hs8)
  have hs9 := hb9.size
  clear HM8 hgr hm hb8 hs8
  have HA := bl.hid (HM9.out.keep (kt.below_row (.cells #[.int .u8 7, .int .u8 8] 5)))
  have HL := bl.hid (rd_two w9 7 8 (by omega) (by omega) (by omega) (by omega))
  have hba := hb9.alloc hs9 (.cells #[.int .u8 7, .int .u8 8] 5)
  have hsa := hba.size
  clear HM9
  go_wp2_with fail
  refine (lay_any p g 30 2 2 _ [7, 8] _ _ HA.out HL.out (by omega) (by omega) (by omega)).mono ?_
  rintro e w10 ⟨rfl, hgr, hm⟩
  rw [pl.kn_m]
  have HM10 : Hid (IsMem w10 p g pl.ex2) := bl.hid hm
  have hb10 := hba.trans (grown_below hgr hg hsa)
  have hs10 := hb10.size
  clear HA HL hba hsa hgr hm hb9 hs9
  have HA := bl.hid (HM10.out.keep (kt.below_row (.cells #[.int .u8 7, .int .u8 8] 5)))
  have HL := bl.hid (rd_two w10 7 8 (by omega) (by omega) (by omega) (by omega))
  have hba := hb10.alloc hs10 (.cells #[.int .u8 7, .int .u8 8] 5)
  have hsa := hba.size
  clear HM10
  go_wp2_with fail
  refine (lay_any p g 31 2 2 _ [7, 8] _ _ HA.out HL.out (by omega) (by omega) (by omega)).mono ?_
  rintro e w11 ⟨rfl, hgr, hm⟩
  rw [pl.kn_n]
  rw [pl.kn_o] at hm
  have HM11 : Hid (IsMem w11 p g pl.ex2) := bl.hid hm
  have hb11 := hba.trans (grown_below hgr hg hsa)
  have hs11 := hb11.size
  clear HA HL hba hsa hgr hm hb10 hs10
  go_wp2_with fail
  refine (loads_yes p g 30 2 2055 _ _ HM11.out (by omega) (by omega) pl.kn_p pl.kn_q).mono ?_
  rintro e w12 ⟨rfl, hb⟩
  have HM12 := bl.hid (HM11.out.keep hb)
  have hb12 := hb11.trans (hb.mono hs11)
  have hs12 := hb12.size
  clear HM11 hb hb11 hs11
  go_wp2_with fail
  refine (mcopy_any p g _ _ HM12.out (by decide)).mono ?_
  rintro e w13 ⟨p2, g2, rfl, hp2, hg2, hm, hb⟩
  have HK := bl.hid hm
  have HM13 := bl.hid (HM12.out.keep hb)
  have hb13 := hb12.trans (hb.mono hs12)
  have hs13 := hb13.size
  clear HM12 hb hb12 hs12 hm
  go_wp2_with fail
  refine (msame_yes p g p2 g2 _ _ _ HM13.out HK.out rfl).mono ?_
  rintro e w14 ⟨rfl, hb⟩
  have HM14 := bl.hid (HM13.out.keep hb)
  have hb14 := hb13.trans (hb.mono hs13)
  have hs14 := hb14.size
  clear HM13 hb hb13 hs13
  go_wp2_with fail
  refine (new_no 15 _ (by omega)).mono ?_
  rintro e w' ⟨rfl, rfl⟩
  go_wp2_with fail
  refine (bytes_any p g 32 0 _ _ HM14.out (by omega) (by omega) (by omega)).mono ?_
  rw [pl.kn_r, pl.kn_s]
  rintro e w15 ⟨a8, c8, rfl, -, hb⟩
  have HM15 := bl.hid (HM14.out.keep hb)
  have hb15 := hb14.trans (hb.mono hs14)
  have hs15 := hb15.size
  clear HM14 hb hb14 hs14
  go_wp2_with fail
  refine (bytes_any p g 33 0 _ _ HM15.out (by omega) (by omega) (by omega)).mono ?_
  rw [pl.kn_t, pl.kn_u]
  rintro e w16 ⟨a9, c9, rfl, -, hb⟩
  have HM16 := bl.hid (HM15.out.keep hb)
  have hb16 := hb15.trans (hb.mono hs15)
  have hs16 := hb16.size
  clear HM15 hb hb15 hs15
  go_wp2_with fail
  refine (awake_true _).mono ?_
  rintro e w17 ⟨rfl, hb⟩
  have hb17 := hb16.trans (hb.mono hs16)
  clear HM16 hb
  go_wp2
  go_ret
  exact ⟨rfl, hb17⟩
end Go.Proofs.Ytkohmoekomegnaa
