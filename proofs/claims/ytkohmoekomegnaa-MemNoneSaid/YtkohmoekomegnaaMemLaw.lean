/- What the statements share: made, loads, fails, awake, cut, Pick: each by a contract. -/
import Derived.Test.YtkohmoekomegnaaMemRef3
namespace Go.Proofs.Ytkohmoekomegnaa
open Go.RowKit
set_option linter.unusedVariables false

def MadePost (n : Nat) (w : World) (e : Ending) (w' : World) : Prop :=
  ∃ p g, e = .returned (.pointer (some ⟨p, 0, none⟩)) ∧ w.heap.size ≤ p ∧ w.heap.size ≤ g ∧ IsMem w' p g (List.replicate n 0) ∧ Below w.heap.size w w'
theorem made_ok (n : Nat) (w : World) (h0 : 16 ≤ n) (h1 : n ≤ 65536) : Calls Try.prog 9 #[.int .i64 n] w (MadePost n w) := by
  go_enter Try.func9, Try.ntmps9
  go_wp2_with fail
  refine (new_ok n _ h0 h1).mono ?_
  rintro e w1 ⟨p, g, rfl, hp, hg, hm, hb⟩
  have HM := bl.hid hm
  clear hm
  go_wp2
  go_ret
  exact ⟨p, g, rfl, hp, hg, HM.out, hb⟩
/-- just this is loaded -/
theorem loads_yes (p g : Nat) (at' n v : Int) (l : List Int) (w : World) (h : IsMem w p g l) (a0 : 0 ≤ at') (a1 : at' < 18446744073709551616) (hE : pl.ldE l at' n = 0) (hV : pl.ldV l at' n = v) :
    Calls Try.prog 14 #[.pointer (some ⟨p, 0, none⟩), .int .u64 at', .int .i64 n, .int .u64 v] w fun e w' => e = .returned (.bool true) ∧ Below w.heap.size w w' := by
  have H := bl.hid h
  have HE := bl.hid hE
  have HV := bl.hid hV
  clear h hE hV
  go_enter Try.func14, Try.ntmps14
  go_wp2_with fail
  refine (load_any p g at' n l _ H.out a0 a1).mono ?_
  rw [HE.out, HV.out]
  rintro e w1 ⟨rfl, hb⟩
  go_wp2
  go_ret
  exact ⟨bl.ret1 (bl.bool_eq (by simp)), hb⟩
/-- it is refused just so -/
theorem fails_yes (p g : Nat) (at' n e : Int) (l : List Int) (w : World) (h : IsMem w p g l) (a0 : 0 ≤ at') (a1 : at' < 18446744073709551616) (hE : pl.ldE l at' n = e) (hV : pl.ldV l at' n = 0) :
    Calls Try.prog 19 #[.pointer (some ⟨p, 0, none⟩), .int .u64 at', .int .i64 n, .int .i64 e] w fun e w' => e = .returned (.bool true) ∧ Below w.heap.size w w' := by
  have H := bl.hid h
  have HE := bl.hid hE
  have HV := bl.hid hV
  clear h hE hV
  go_enter Try.func19, Try.ntmps19
  go_wp2_with fail
  refine (load_any p g at' n l _ H.out a0 a1).mono ?_
  rw [HE.out, HV.out]
  rintro e w1 ⟨rfl, hb⟩
  go_wp2
  go_ret
  exact ⟨bl.ret1 (bl.bool_eq (by simp)), hb⟩
/-- below block B all is as it was -/
theorem grown_below {w w' : World} {B g : Nat} (h : w.grownBy w' (some g)) (hg : B ≤ g) (hB : B ≤ w.heap.size) : Below B w w' :=
  (Below.refl B w).grown h hB (fun k hk => by cases hk; exact hg)
namespace pl
/-- the chapter's first memory, a number stored -/
def ex1 : List Int := stL (List.replicate 32 0) 16 4 16909060
theorem ex1_a : ldE ex1 16 1 = 0 := by decide
theorem ex1_b : ldV ex1 16 1 = 4 := by decide
theorem ex1_c : ldE ex1 17 2 = 0 := by decide
theorem ex1_d : ldV ex1 17 2 = 515 := by decide
theorem ex1_e : ldE ex1 16 8 = 0 := by decide
theorem ex1_f : ldV ex1 16 8 = 16909060 := by decide
theorem ex1_g : ldE ex1 15 1 = 15 := by decide
theorem ex1_h : ldV ex1 15 1 = 0 := by decide
theorem ex1_0 : ldE (List.replicate 32 0) 16 4 = 0 := by decide
end pl
set_option maxHeartbeats 800000 in
theorem awake_true (w : World) : Calls Try.prog 8 #[] w fun e w' => e = .returned (.bool true) ∧ Below w.heap.size w w' := by
  go_enter Try.func8, Try.ntmps8
  go_wp2_with fail
  refine (made_ok 32 _ (by omega) (by omega)).mono ?_
  rintro e w1 ⟨p, g, rfl, hp, hg, hm, hb⟩
  have HM := bl.hid hm
  have hs := hb.size
  clear hm
  go_wp2_with fail
  refine (store_any p g 16 4 16909060 _ _ HM.out (by omega) (by omega) (by omega) (by omega)).mono ?_
  rintro e w2 ⟨rfl, hg2, hm2⟩
  rw [pl.ex1_0]
  have hb2 := hb.trans (grown_below hg2 hg hs)
  have HM2 : Hid (IsMem w2 p g pl.ex1) := bl.hid hm2
  have hs2 := hb2.size
  clear hm2 hg2 hb hs HM
  go_wp2_with fail
  refine (loads_yes p g 16 1 4 _ _ HM2.out (by omega) (by omega) pl.ex1_a pl.ex1_b).mono ?_
  rintro e w3 ⟨rfl, hb3⟩
  have HM3 := bl.hid (HM2.out.keep hb3)
  have hb23 := hb2.trans (hb3.mono hs2)
  have hs3 := hb23.size
  clear HM2 hb3 hb2 hs2
  go_wp2_with fail
  refine (loads_yes p g 17 2 515 _ _ HM3.out (by omega) (by omega) pl.ex1_c pl.ex1_d).mono ?_
  rintro e w4 ⟨rfl, hb4⟩
  have HM4 := bl.hid (HM3.out.keep hb4)
  have hb24 := hb23.trans (hb4.mono hs3)
  have hs4 := hb24.size
  clear HM3 hb4 hb23 hs3
  go_wp2_with fail
  refine (loads_yes p g 16 8 16909060 _ _ HM4.out (by omega) (by omega) pl.ex1_e pl.ex1_f).mono ?_
  rintro e w5 ⟨rfl, hb5⟩
  have HM5 := bl.hid (HM4.out.keep hb5)
  have hb25 := hb24.trans (hb5.mono hs4)
  have hs5 := hb25.size
  clear HM4 hb5 hb24 hs4
  go_wp2_with fail
  refine (fails_yes p g 15 1 15 _ _ HM5.out (by omega) (by omega) pl.ex1_g pl.ex1_h).mono ?_
  rintro e w6 ⟨rfl, hb6⟩
  have hb26 := hb25.trans (hb6.mono hs5)
  clear HM5 hb6 hb25
  go_wp2
  go_ret
  exact ⟨rfl, hb26⟩
end Go.Proofs.Ytkohmoekomegnaa
