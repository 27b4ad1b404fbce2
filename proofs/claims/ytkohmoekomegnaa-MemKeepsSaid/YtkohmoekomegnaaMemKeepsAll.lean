/- MemKeeps, walked: it returns true. -/
import Derived.Test.YtkohmoekomegnaaMemKeeps1
import Derived.Test.YtkohmoekomegnaaMemKeeps2
import Derived.Test.YtkohmoekomegnaaMemKeeps4
import Derived.Test.YtkohmoekomegnaaMemKeeps8
namespace Go.Proofs.Ytkohmoekomegnaa
open Go.RowKit
set_option linter.unusedVariables false

set_option maxRecDepth 100000 in
set_option maxHeartbeats 1600000 in
theorem keeps_long (a : Option Addr) (len cap s : Nat) (xs : Nat → kt.Act) (at' a0 a3 v : Int) (w : World) (h : kt.Acts w a len xs) (hlg : kt.longB len xs = true) (hs : 16 + pl.pickV a0 200 = s) (hs0 : 16 ≤ s) (hs1 : s < 216)
    (p0 : -9223372036854775808 ≤ a0) (p1 : a0 ≤ 9223372036854775807) :
    Calls Try.prog 5 #[.int .i64 a0, .slice a len cap, .int .u64 at', .int .i64 a3, .int .u64 v] w fun e w' => e = .returned (.bool true) ∧ Below w.heap.size w w' := by
  have H := bl.hid h
  have HG := bl.hid hlg
  obtain ⟨t, ht⟩ : ∃ t : Nat, pl.pickV a0 200 = t := ⟨(pl.pickV a0 200).toNat, by have := pl.pickV_bd a0 200 (by omega); omega⟩
  have hts : 16 + (t : Int) = s := by omega
  have HT := bl.hid ht
  have ht2 : t < 200 := by omega
  clear h hlg ht hs
  go_enter Try.func5, Try.ntmps5
  go_wp2_with fail
  refine (known_walk _).mono ?_
  rintro e w1 ⟨rfl, hb1⟩
  have hs1' := hb1.size
  go_wp2_with fail
  refine (pick_val a0 200 _ (by omega) (by omega) p0 p1).mono ?_
  rw [HT.out]
  rintro e w' ⟨rfl, rfl⟩
  go_wp2_with fail
  refine (made_ok s _ hs0 (by omega)).mono ?_
  rintro e w2 ⟨p, g, rfl, hp, hg, -, hb⟩
  have hb2 := hb1.trans (hb.mono hs1')
  have H2 := bl.hid (H.out.keep hb2)
  clear hb hb1 hp hg hs1'
  go_wp2_with fail
  refine (long_any a len cap xs _ H2.out).mono ?_
  rw [HG.out]
  rintro e w' ⟨rfl, rfl⟩
  clear H2
  go_wp2
  go_ret
  exact ⟨rfl, hb2⟩
set_option maxRecDepth 100000 in
set_option maxHeartbeats 1600000 in
theorem keeps_many (a : Option Addr) (len cap s : Nat) (xs : Nat → kt.Act) (at' a0 a3 v : Int) (w : World) (h : kt.Acts w a len xs) (hlg : kt.longB len xs = false) (h40 : 40 < len) (hs : 16 + pl.pickV a0 200 = s) (hs0 : 16 ≤ s) (hs1 : s < 216)
    (p0 : -9223372036854775808 ≤ a0) (p1 : a0 ≤ 9223372036854775807) :
    Calls Try.prog 5 #[.int .i64 a0, .slice a len cap, .int .u64 at', .int .i64 a3, .int .u64 v] w fun e w' => e = .returned (.bool true) ∧ Below w.heap.size w w' := by
  have H := bl.hid h
  have HG := bl.hid hlg
  obtain ⟨t, ht⟩ : ∃ t : Nat, pl.pickV a0 200 = t := ⟨(pl.pickV a0 200).toNat, by have := pl.pickV_bd a0 200 (by omega); omega⟩
  have hts : 16 + (t : Int) = s := by omega
  have HT := bl.hid ht
  have ht2 : t < 200 := by omega
  have h40b : decide ((40 : Int) < (len : Int)) = true := decide_eq_true (by omega)
  clear h hlg ht hs
  go_enter Try.func5, Try.ntmps5
  go_wp2_with fail
  refine (known_walk _).mono ?_
  rintro e w1 ⟨rfl, hb1⟩
  have hs1' := hb1.size
  go_wp2_with fail
  refine (pick_val a0 200 _ (by omega) (by omega) p0 p1).mono ?_
  rw [HT.out]
  rintro e w' ⟨rfl, rfl⟩
  go_wp2_with fail
  refine (made_ok s _ hs0 (by omega)).mono ?_
  rintro e w2 ⟨p, g, rfl, hp, hg, -, hb⟩
  have hb2 := hb1.trans (hb.mono hs1')
  have H2 := bl.hid (H.out.keep hb2)
  clear hb hb1 hp hg hs1'
  go_wp2_with fail
  refine (long_any a len cap xs _ H2.out).mono ?_
  rw [HG.out]
  rintro e w' ⟨rfl, rfl⟩
  clear H2
  go_wp2
  go_ret
  exact ⟨rfl, hb2⟩
theorem keeps_core (a : Option Addr) (len cap : Nat) (xs : Nat → kt.Act) (a0 at' a3 v : Int) (w : World) (h : kt.Acts w a len xs)
    (p0 : -9223372036854775808 ≤ a0) (p1 : a0 ≤ 9223372036854775807) (u0 : 0 ≤ at') (u1 : at' < 18446744073709551616) (q0 : -9223372036854775808 ≤ a3) (q1 : a3 ≤ 9223372036854775807) (v0 : 0 ≤ v) (v1 : v < 18446744073709551616) :
    Calls Try.prog 5 #[.int .i64 a0, .slice a len cap, .int .u64 at', .int .i64 a3, .int .u64 v] w fun e w' => e = .returned (.bool true) ∧ Below w.heap.size w w' := by
  have hp := pl.pickV_bd a0 200 (by omega)
  obtain ⟨s, hs⟩ : ∃ s : Nat, 16 + pl.pickV a0 200 = s := ⟨(16 + pl.pickV a0 200).toNat, by omega⟩
  cases hlg : kt.longB len xs with
  | true => exact keeps_long a len cap s xs at' a0 a3 v w h hlg hs (by omega) (by omega) p0 p1
  | false =>
    by_cases h40 : 40 < len
    · exact keeps_many a len cap s xs at' a0 a3 v w h hlg h40 hs (by omega) (by omega) p0 p1
    · have hk := pl.pickV_bd a3 4 (by omega)
      have hk4 : pl.pickV a3 4 = 0 ∨ pl.pickV a3 4 = 1 ∨ pl.pickV a3 4 = 2 ∨ pl.pickV a3 4 = 3 := by omega
      rcases hk4 with hk4 | hk4 | hk4 | hk4
      · by_cases c : at' < 16
        · exact keeps_low1 a len cap s xs at' a0 a3 v w h hlg (by omega) hs (by omega) (by omega) p0 p1 q0 q1 v0 v1 hk4 u0 u1 c
        · by_cases d : (s : Int) < at' + 1
          · exact keeps_high1 a len cap s xs at' a0 a3 v w h hlg (by omega) hs (by omega) (by omega) p0 p1 q0 q1 v0 v1 hk4 u0 u1 (by omega) d
          · obtain ⟨b, rfl⟩ : ∃ b : Nat, at' = b := ⟨at'.toNat, by omega⟩
            exact keeps_fit1 a len cap s xs b a0 a3 v w h hlg (by omega) hs (by omega) (by omega) p0 p1 q0 q1 v0 v1 hk4 (by omega) (by omega)
      · by_cases c : at' < 16
        · exact keeps_low2 a len cap s xs at' a0 a3 v w h hlg (by omega) hs (by omega) (by omega) p0 p1 q0 q1 v0 v1 hk4 u0 u1 c
        · by_cases d : (s : Int) < at' + 2
          · exact keeps_high2 a len cap s xs at' a0 a3 v w h hlg (by omega) hs (by omega) (by omega) p0 p1 q0 q1 v0 v1 hk4 u0 u1 (by omega) d
          · obtain ⟨b, rfl⟩ : ∃ b : Nat, at' = b := ⟨at'.toNat, by omega⟩
            exact keeps_fit2 a len cap s xs b a0 a3 v w h hlg (by omega) hs (by omega) (by omega) p0 p1 q0 q1 v0 v1 hk4 (by omega) (by omega)
      · by_cases c : at' < 16
        · exact keeps_low4 a len cap s xs at' a0 a3 v w h hlg (by omega) hs (by omega) (by omega) p0 p1 q0 q1 v0 v1 hk4 u0 u1 c
        · by_cases d : (s : Int) < at' + 4
          · exact keeps_high4 a len cap s xs at' a0 a3 v w h hlg (by omega) hs (by omega) (by omega) p0 p1 q0 q1 v0 v1 hk4 u0 u1 (by omega) d
          · obtain ⟨b, rfl⟩ : ∃ b : Nat, at' = b := ⟨at'.toNat, by omega⟩
            exact keeps_fit4 a len cap s xs b a0 a3 v w h hlg (by omega) hs (by omega) (by omega) p0 p1 q0 q1 v0 v1 hk4 (by omega) (by omega)
      · by_cases c : at' < 16
        · exact keeps_low8 a len cap s xs at' a0 a3 v w h hlg (by omega) hs (by omega) (by omega) p0 p1 q0 q1 v0 v1 hk4 u0 u1 c
        · by_cases d : (s : Int) < at' + 8
          · exact keeps_high8 a len cap s xs at' a0 a3 v w h hlg (by omega) hs (by omega) (by omega) p0 p1 q0 q1 v0 v1 hk4 u0 u1 (by omega) d
          · obtain ⟨b, rfl⟩ : ∃ b : Nat, at' = b := ⟨at'.toNat, by omega⟩
            exact keeps_fit8 a len cap s xs b a0 a3 v w h hlg (by omega) hs (by omega) (by omega) p0 p1 q0 q1 v0 v1 hk4 (by omega) (by omega)
end Go.Proofs.Ytkohmoekomegnaa
