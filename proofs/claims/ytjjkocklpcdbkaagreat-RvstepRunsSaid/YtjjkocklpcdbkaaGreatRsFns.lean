/- The reference's sizes, product, function, takes, walked. -/
import Derived.Test.YtjjkocklpcdbkaaGreatRsMach
namespace Go.Proofs.YtjjkocklpcdbkaaGreat
open Go.RowKit
set_option linter.unusedVariables false
set_option maxRecDepth 100000
namespace st
theorem doV_lt (x y : Int) (x0 : 0 ≤ x) (x1 : x < 18446744073709551616) (y0 : 0 ≤ y) (y1 : y < 18446744073709551616) : wd.doV 17 x y = if sg x < sg y then 1 else 0 := by
  rw [← sg_wrap64 x x0 x1, ← sg_wrap64 y y0 y1]
  show wd.bit (decide (wrap64 x < wrap64 y)) = _
  unfold wd.bit
  by_cases h : wrap64 x < wrap64 y <;> simp [h]
/-- is what is loaded or stored signed, by the reference -/
def rszS (x : Int) : Bool := decide ((11 ≤ x ∧ x ≤ 14) ∨ (18 ≤ x ∧ x ≤ 21))
end st
theorem rsizes11 (w : World) : Calls Tryz.prog 32 #[.int .i64 11] w fun e w' => e = .returned (.tuple #[.int .i64 (st.szN 11), .bool (st.rszS 11)]) ∧ w' = w := by
  go_enter Tryz.func32, Tryz.ntmps32
  go_wp2
  go_ret2
  exact ⟨rfl, rfl⟩
theorem rsizes18 (w : World) : Calls Tryz.prog 32 #[.int .i64 18] w fun e w' => e = .returned (.tuple #[.int .i64 (st.szN 18), .bool (st.rszS 18)]) ∧ w' = w := by
  go_enter Tryz.func32, Tryz.ntmps32
  go_wp2
  go_ret2
  exact ⟨rfl, rfl⟩
theorem rsizes12 (w : World) : Calls Tryz.prog 32 #[.int .i64 12] w fun e w' => e = .returned (.tuple #[.int .i64 (st.szN 12), .bool (st.rszS 12)]) ∧ w' = w := by
  go_enter Tryz.func32, Tryz.ntmps32
  go_wp2
  go_ret2
  exact ⟨rfl, rfl⟩
theorem rsizes19 (w : World) : Calls Tryz.prog 32 #[.int .i64 19] w fun e w' => e = .returned (.tuple #[.int .i64 (st.szN 19), .bool (st.rszS 19)]) ∧ w' = w := by
  go_enter Tryz.func32, Tryz.ntmps32
  go_wp2
  go_ret2
  exact ⟨rfl, rfl⟩
theorem rsizes13 (w : World) : Calls Tryz.prog 32 #[.int .i64 13] w fun e w' => e = .returned (.tuple #[.int .i64 (st.szN 13), .bool (st.rszS 13)]) ∧ w' = w := by
  go_enter Tryz.func32, Tryz.ntmps32
  go_wp2
  go_ret2
  exact ⟨rfl, rfl⟩
theorem rsizes20 (w : World) : Calls Tryz.prog 32 #[.int .i64 20] w fun e w' => e = .returned (.tuple #[.int .i64 (st.szN 20), .bool (st.rszS 20)]) ∧ w' = w := by
  go_enter Tryz.func32, Tryz.ntmps32
  go_wp2
  go_ret2
  exact ⟨rfl, rfl⟩
theorem rsizes14 (w : World) : Calls Tryz.prog 32 #[.int .i64 14] w fun e w' => e = .returned (.tuple #[.int .i64 (st.szN 14), .bool (st.rszS 14)]) ∧ w' = w := by
  go_enter Tryz.func32, Tryz.ntmps32
  go_wp2
  go_ret2
  exact ⟨rfl, rfl⟩
theorem rsizes21 (w : World) : Calls Tryz.prog 32 #[.int .i64 21] w fun e w' => e = .returned (.tuple #[.int .i64 (st.szN 21), .bool (st.rszS 21)]) ∧ w' = w := by
  go_enter Tryz.func32, Tryz.ntmps32
  go_wp2
  go_ret2
  exact ⟨rfl, rfl⟩
theorem rsizes15 (w : World) : Calls Tryz.prog 32 #[.int .i64 15] w fun e w' => e = .returned (.tuple #[.int .i64 (st.szN 15), .bool (st.rszS 15)]) ∧ w' = w := by
  go_enter Tryz.func32, Tryz.ntmps32
  go_wp2
  go_ret2
  exact ⟨rfl, rfl⟩
theorem rsizes16 (w : World) : Calls Tryz.prog 32 #[.int .i64 16] w fun e w' => e = .returned (.tuple #[.int .i64 (st.szN 16), .bool (st.rszS 16)]) ∧ w' = w := by
  go_enter Tryz.func32, Tryz.ntmps32
  go_wp2
  go_ret2
  exact ⟨rfl, rfl⟩
theorem rsizes17 (w : World) : Calls Tryz.prog 32 #[.int .i64 17] w fun e w' => e = .returned (.tuple #[.int .i64 (st.szN 17), .bool (st.rszS 17)]) ∧ w' = w := by
  go_enter Tryz.func32, Tryz.ntmps32
  go_wp2
  go_ret2
  exact ⟨rfl, rfl⟩
theorem rsizes_any (x : Int) (w : World) : Calls Tryz.prog 32 #[.int .i64 x] w fun e w' => e = .returned (.tuple #[.int .i64 (st.szN x), .bool (st.rszS x)]) ∧ w' = w := by
  by_cases h : 11 ≤ x ∧ x ≤ 21
  · have : x = 11 ∨ x = 18 ∨ x = 12 ∨ x = 19 ∨ x = 13 ∨ x = 20 ∨ x = 14 ∨ x = 21 ∨ x = 15 ∨ x = 16 ∨ x = 17 := by omega
    rcases this with rfl | rfl | rfl | rfl | rfl | rfl | rfl | rfl | rfl | rfl | rfl
    · exact rsizes11 w
    · exact rsizes18 w
    · exact rsizes12 w
    · exact rsizes19 w
    · exact rsizes13 w
    · exact rsizes20 w
    · exact rsizes14 w
    · exact rsizes21 w
    · exact rsizes15 w
    · exact rsizes16 w
    · exact rsizes17 w
  · have hv : st.szN x = 0 := by unfold st.szN; rw [if_neg (by omega), if_neg (by omega), if_neg (by omega), if_neg (by omega)]
    have hs : st.rszS x = false := decide_eq_false (by omega)
    rw [hv, hs]
    have n11 : (x == 11) = false := by simp; omega
    have n18 : (x == 18) = false := by simp; omega
    have n12 : (x == 12) = false := by simp; omega
    have n19 : (x == 19) = false := by simp; omega
    have n13 : (x == 13) = false := by simp; omega
    have n20 : (x == 20) = false := by simp; omega
    have n14 : (x == 14) = false := by simp; omega
    have n21 : (x == 21) = false := by simp; omega
    have n15 : (x == 15) = false := by simp; omega
    have n16 : (x == 16) = false := by simp; omega
    have n17 : (x == 17) = false := by simp; omega
    clear h hv hs
    go_enter Tryz.func32, Tryz.ntmps32
    go_wp2
    go_ret2
    exact ⟨rfl, rfl⟩
theorem rproduct50 (w : World) : Calls Tryz.prog 54 #[.int .i64 50] w fun e w' => e = .returned (.tuple #[.int .i64 3, .bool false]) ∧ w' = w := by
  go_enter Tryz.func54, Tryz.ntmps54
  go_wp2
  go_ret2
  exact ⟨rfl, rfl⟩
theorem rproduct51 (w : World) : Calls Tryz.prog 54 #[.int .i64 51] w fun e w' => e = .returned (.tuple #[.int .i64 4, .bool false]) ∧ w' = w := by
  go_enter Tryz.func54, Tryz.ntmps54
  go_wp2
  go_ret2
  exact ⟨rfl, rfl⟩
theorem rproduct52 (w : World) : Calls Tryz.prog 54 #[.int .i64 52] w fun e w' => e = .returned (.tuple #[.int .i64 6, .bool false]) ∧ w' = w := by
  go_enter Tryz.func54, Tryz.ntmps54
  go_wp2
  go_ret2
  exact ⟨rfl, rfl⟩
theorem rproduct53 (w : World) : Calls Tryz.prog 54 #[.int .i64 53] w fun e w' => e = .returned (.tuple #[.int .i64 5, .bool false]) ∧ w' = w := by
  go_enter Tryz.func54, Tryz.ntmps54
  go_wp2
  go_ret2
  exact ⟨rfl, rfl⟩
theorem rproduct54 (w : World) : Calls Tryz.prog 54 #[.int .i64 54] w fun e w' => e = .returned (.tuple #[.int .i64 7, .bool false]) ∧ w' = w := by
  go_enter Tryz.func54, Tryz.ntmps54
  go_wp2
  go_ret2
  exact ⟨rfl, rfl⟩
theorem rproduct55 (w : World) : Calls Tryz.prog 54 #[.int .i64 55] w fun e w' => e = .returned (.tuple #[.int .i64 8, .bool false]) ∧ w' = w := by
  go_enter Tryz.func54, Tryz.ntmps54
  go_wp2
  go_ret2
  exact ⟨rfl, rfl⟩
theorem rproduct56 (w : World) : Calls Tryz.prog 54 #[.int .i64 56] w fun e w' => e = .returned (.tuple #[.int .i64 9, .bool false]) ∧ w' = w := by
  go_enter Tryz.func54, Tryz.ntmps54
  go_wp2
  go_ret2
  exact ⟨rfl, rfl⟩
theorem rproduct57 (w : World) : Calls Tryz.prog 54 #[.int .i64 57] w fun e w' => e = .returned (.tuple #[.int .i64 10, .bool false]) ∧ w' = w := by
  go_enter Tryz.func54, Tryz.ntmps54
  go_wp2
  go_ret2
  exact ⟨rfl, rfl⟩
theorem rproduct58 (w : World) : Calls Tryz.prog 54 #[.int .i64 58] w fun e w' => e = .returned (.tuple #[.int .i64 3, .bool true]) ∧ w' = w := by
  go_enter Tryz.func54, Tryz.ntmps54
  go_wp2
  go_ret2
  exact ⟨rfl, rfl⟩
theorem rproduct59 (w : World) : Calls Tryz.prog 54 #[.int .i64 59] w fun e w' => e = .returned (.tuple #[.int .i64 7, .bool true]) ∧ w' = w := by
  go_enter Tryz.func54, Tryz.ntmps54
  go_wp2
  go_ret2
  exact ⟨rfl, rfl⟩
theorem rproduct60 (w : World) : Calls Tryz.prog 54 #[.int .i64 60] w fun e w' => e = .returned (.tuple #[.int .i64 8, .bool true]) ∧ w' = w := by
  go_enter Tryz.func54, Tryz.ntmps54
  go_wp2
  go_ret2
  exact ⟨rfl, rfl⟩
theorem rproduct61 (w : World) : Calls Tryz.prog 54 #[.int .i64 61] w fun e w' => e = .returned (.tuple #[.int .i64 9, .bool true]) ∧ w' = w := by
  go_enter Tryz.func54, Tryz.ntmps54
  go_wp2
  go_ret2
  exact ⟨rfl, rfl⟩
theorem rproduct62 (w : World) : Calls Tryz.prog 54 #[.int .i64 62] w fun e w' => e = .returned (.tuple #[.int .i64 10, .bool true]) ∧ w' = w := by
  go_enter Tryz.func54, Tryz.ntmps54
  go_wp2
  go_ret2
  exact ⟨rfl, rfl⟩
theorem rproduct_no (x : Int) (h : x < 50 ∨ 62 < x) (w : World) : Calls Tryz.prog 54 #[.int .i64 x] w fun e w' => e = .returned (.tuple #[.int .i64 0, .bool false]) ∧ w' = w := by
  have n50 : (x == 50) = false := by simp; omega
  have n51 : (x == 51) = false := by simp; omega
  have n52 : (x == 52) = false := by simp; omega
  have n53 : (x == 53) = false := by simp; omega
  have n54 : (x == 54) = false := by simp; omega
  have n55 : (x == 55) = false := by simp; omega
  have n56 : (x == 56) = false := by simp; omega
  have n57 : (x == 57) = false := by simp; omega
  have n58 : (x == 58) = false := by simp; omega
  have n59 : (x == 59) = false := by simp; omega
  have n60 : (x == 60) = false := by simp; omega
  have n61 : (x == 61) = false := by simp; omega
  have n62 : (x == 62) = false := by simp; omega
  clear h
  go_enter Tryz.func54, Tryz.ntmps54
  go_wp2
  go_ret2
  exact ⟨rfl, rfl⟩
theorem rfunction22 (w : World) : Calls Tryz.prog 33 #[.int .i64 22] w fun e w' => e = .returned (.tuple #[.int .i64 1, .bool false]) ∧ w' = w := by
  go_enter Tryz.func33, Tryz.ntmps33
  go_wp2
  go_ret2
  exact ⟨rfl, rfl⟩
theorem rfunction23 (w : World) : Calls Tryz.prog 33 #[.int .i64 23] w fun e w' => e = .returned (.tuple #[.int .i64 17, .bool false]) ∧ w' = w := by
  go_enter Tryz.func33, Tryz.ntmps33
  go_wp2
  go_ret2
  exact ⟨rfl, rfl⟩
theorem rfunction24 (w : World) : Calls Tryz.prog 33 #[.int .i64 24] w fun e w' => e = .returned (.tuple #[.int .i64 18, .bool false]) ∧ w' = w := by
  go_enter Tryz.func33, Tryz.ntmps33
  go_wp2
  go_ret2
  exact ⟨rfl, rfl⟩
theorem rfunction25 (w : World) : Calls Tryz.prog 33 #[.int .i64 25] w fun e w' => e = .returned (.tuple #[.int .i64 13, .bool false]) ∧ w' = w := by
  go_enter Tryz.func33, Tryz.ntmps33
  go_wp2
  go_ret2
  exact ⟨rfl, rfl⟩
theorem rfunction26 (w : World) : Calls Tryz.prog 33 #[.int .i64 26] w fun e w' => e = .returned (.tuple #[.int .i64 12, .bool false]) ∧ w' = w := by
  go_enter Tryz.func33, Tryz.ntmps33
  go_wp2
  go_ret2
  exact ⟨rfl, rfl⟩
theorem rfunction27 (w : World) : Calls Tryz.prog 33 #[.int .i64 27] w fun e w' => e = .returned (.tuple #[.int .i64 11, .bool false]) ∧ w' = w := by
  go_enter Tryz.func33, Tryz.ntmps33
  go_wp2
  go_ret2
  exact ⟨rfl, rfl⟩
theorem rfunction28 (w : World) : Calls Tryz.prog 33 #[.int .i64 28] w fun e w' => e = .returned (.tuple #[.int .i64 14, .bool false]) ∧ w' = w := by
  go_enter Tryz.func33, Tryz.ntmps33
  go_wp2
  go_ret2
  exact ⟨rfl, rfl⟩
theorem rfunction29 (w : World) : Calls Tryz.prog 33 #[.int .i64 29] w fun e w' => e = .returned (.tuple #[.int .i64 15, .bool false]) ∧ w' = w := by
  go_enter Tryz.func33, Tryz.ntmps33
  go_wp2
  go_ret2
  exact ⟨rfl, rfl⟩
theorem rfunction30 (w : World) : Calls Tryz.prog 33 #[.int .i64 30] w fun e w' => e = .returned (.tuple #[.int .i64 16, .bool false]) ∧ w' = w := by
  go_enter Tryz.func33, Tryz.ntmps33
  go_wp2
  go_ret2
  exact ⟨rfl, rfl⟩
theorem rfunction31 (w : World) : Calls Tryz.prog 33 #[.int .i64 31] w fun e w' => e = .returned (.tuple #[.int .i64 1, .bool true]) ∧ w' = w := by
  go_enter Tryz.func33, Tryz.ntmps33
  go_wp2
  go_ret2
  exact ⟨rfl, rfl⟩
theorem rfunction32 (w : World) : Calls Tryz.prog 33 #[.int .i64 32] w fun e w' => e = .returned (.tuple #[.int .i64 14, .bool true]) ∧ w' = w := by
  go_enter Tryz.func33, Tryz.ntmps33
  go_wp2
  go_ret2
  exact ⟨rfl, rfl⟩
theorem rfunction33 (w : World) : Calls Tryz.prog 33 #[.int .i64 33] w fun e w' => e = .returned (.tuple #[.int .i64 15, .bool true]) ∧ w' = w := by
  go_enter Tryz.func33, Tryz.ntmps33
  go_wp2
  go_ret2
  exact ⟨rfl, rfl⟩
theorem rfunction34 (w : World) : Calls Tryz.prog 33 #[.int .i64 34] w fun e w' => e = .returned (.tuple #[.int .i64 16, .bool true]) ∧ w' = w := by
  go_enter Tryz.func33, Tryz.ntmps33
  go_wp2
  go_ret2
  exact ⟨rfl, rfl⟩
theorem rfunction35 (w : World) : Calls Tryz.prog 33 #[.int .i64 35] w fun e w' => e = .returned (.tuple #[.int .i64 1, .bool false]) ∧ w' = w := by
  go_enter Tryz.func33, Tryz.ntmps33
  go_wp2
  go_ret2
  exact ⟨rfl, rfl⟩
theorem rfunction36 (w : World) : Calls Tryz.prog 33 #[.int .i64 36] w fun e w' => e = .returned (.tuple #[.int .i64 2, .bool false]) ∧ w' = w := by
  go_enter Tryz.func33, Tryz.ntmps33
  go_wp2
  go_ret2
  exact ⟨rfl, rfl⟩
theorem rfunction37 (w : World) : Calls Tryz.prog 33 #[.int .i64 37] w fun e w' => e = .returned (.tuple #[.int .i64 14, .bool false]) ∧ w' = w := by
  go_enter Tryz.func33, Tryz.ntmps33
  go_wp2
  go_ret2
  exact ⟨rfl, rfl⟩
theorem rfunction38 (w : World) : Calls Tryz.prog 33 #[.int .i64 38] w fun e w' => e = .returned (.tuple #[.int .i64 17, .bool false]) ∧ w' = w := by
  go_enter Tryz.func33, Tryz.ntmps33
  go_wp2
  go_ret2
  exact ⟨rfl, rfl⟩
theorem rfunction39 (w : World) : Calls Tryz.prog 33 #[.int .i64 39] w fun e w' => e = .returned (.tuple #[.int .i64 18, .bool false]) ∧ w' = w := by
  go_enter Tryz.func33, Tryz.ntmps33
  go_wp2
  go_ret2
  exact ⟨rfl, rfl⟩
theorem rfunction40 (w : World) : Calls Tryz.prog 33 #[.int .i64 40] w fun e w' => e = .returned (.tuple #[.int .i64 13, .bool false]) ∧ w' = w := by
  go_enter Tryz.func33, Tryz.ntmps33
  go_wp2
  go_ret2
  exact ⟨rfl, rfl⟩
theorem rfunction41 (w : World) : Calls Tryz.prog 33 #[.int .i64 41] w fun e w' => e = .returned (.tuple #[.int .i64 15, .bool false]) ∧ w' = w := by
  go_enter Tryz.func33, Tryz.ntmps33
  go_wp2
  go_ret2
  exact ⟨rfl, rfl⟩
theorem rfunction42 (w : World) : Calls Tryz.prog 33 #[.int .i64 42] w fun e w' => e = .returned (.tuple #[.int .i64 16, .bool false]) ∧ w' = w := by
  go_enter Tryz.func33, Tryz.ntmps33
  go_wp2
  go_ret2
  exact ⟨rfl, rfl⟩
theorem rfunction43 (w : World) : Calls Tryz.prog 33 #[.int .i64 43] w fun e w' => e = .returned (.tuple #[.int .i64 12, .bool false]) ∧ w' = w := by
  go_enter Tryz.func33, Tryz.ntmps33
  go_wp2
  go_ret2
  exact ⟨rfl, rfl⟩
theorem rfunction44 (w : World) : Calls Tryz.prog 33 #[.int .i64 44] w fun e w' => e = .returned (.tuple #[.int .i64 11, .bool false]) ∧ w' = w := by
  go_enter Tryz.func33, Tryz.ntmps33
  go_wp2
  go_ret2
  exact ⟨rfl, rfl⟩
theorem rfunction45 (w : World) : Calls Tryz.prog 33 #[.int .i64 45] w fun e w' => e = .returned (.tuple #[.int .i64 1, .bool true]) ∧ w' = w := by
  go_enter Tryz.func33, Tryz.ntmps33
  go_wp2
  go_ret2
  exact ⟨rfl, rfl⟩
theorem rfunction46 (w : World) : Calls Tryz.prog 33 #[.int .i64 46] w fun e w' => e = .returned (.tuple #[.int .i64 2, .bool true]) ∧ w' = w := by
  go_enter Tryz.func33, Tryz.ntmps33
  go_wp2
  go_ret2
  exact ⟨rfl, rfl⟩
theorem rfunction47 (w : World) : Calls Tryz.prog 33 #[.int .i64 47] w fun e w' => e = .returned (.tuple #[.int .i64 14, .bool true]) ∧ w' = w := by
  go_enter Tryz.func33, Tryz.ntmps33
  go_wp2
  go_ret2
  exact ⟨rfl, rfl⟩
theorem rfunction48 (w : World) : Calls Tryz.prog 33 #[.int .i64 48] w fun e w' => e = .returned (.tuple #[.int .i64 15, .bool true]) ∧ w' = w := by
  go_enter Tryz.func33, Tryz.ntmps33
  go_wp2
  go_ret2
  exact ⟨rfl, rfl⟩
theorem rfunction49 (w : World) : Calls Tryz.prog 33 #[.int .i64 49] w fun e w' => e = .returned (.tuple #[.int .i64 16, .bool true]) ∧ w' = w := by
  go_enter Tryz.func33, Tryz.ntmps33
  go_wp2
  go_ret2
  exact ⟨rfl, rfl⟩
theorem rfunction_no (x : Int) (h : x < 22 ∨ 49 < x) (fn : Int) (half : Bool) (hp : ∀ w, Calls Tryz.prog 54 #[.int .i64 x] w fun e w' => e = .returned (.tuple #[.int .i64 fn, .bool half]) ∧ w' = w) (w : World) : Calls Tryz.prog 33 #[.int .i64 x] w fun e w' => e = .returned (.tuple #[.int .i64 fn, .bool half]) ∧ w' = w := by
  have n22 : (x == 22) = false := by simp; omega
  have n23 : (x == 23) = false := by simp; omega
  have n24 : (x == 24) = false := by simp; omega
  have n25 : (x == 25) = false := by simp; omega
  have n26 : (x == 26) = false := by simp; omega
  have n27 : (x == 27) = false := by simp; omega
  have n28 : (x == 28) = false := by simp; omega
  have n29 : (x == 29) = false := by simp; omega
  have n30 : (x == 30) = false := by simp; omega
  have n31 : (x == 31) = false := by simp; omega
  have n32 : (x == 32) = false := by simp; omega
  have n33 : (x == 33) = false := by simp; omega
  have n34 : (x == 34) = false := by simp; omega
  have n35 : (x == 35) = false := by simp; omega
  have n36 : (x == 36) = false := by simp; omega
  have n37 : (x == 37) = false := by simp; omega
  have n38 : (x == 38) = false := by simp; omega
  have n39 : (x == 39) = false := by simp; omega
  have n40 : (x == 40) = false := by simp; omega
  have n41 : (x == 41) = false := by simp; omega
  have n42 : (x == 42) = false := by simp; omega
  have n43 : (x == 43) = false := by simp; omega
  have n44 : (x == 44) = false := by simp; omega
  have n45 : (x == 45) = false := by simp; omega
  have n46 : (x == 46) = false := by simp; omega
  have n47 : (x == 47) = false := by simp; omega
  have n48 : (x == 48) = false := by simp; omega
  have n49 : (x == 49) = false := by simp; omega
  clear h
  have HP := bl.hid hp
  clear hp
  go_enter Tryz.func33, Tryz.ntmps33
  go_wp2_with fail
  refine (HP.out _).mono ?_
  rintro e w1 ⟨rfl, hw⟩
  subst hw
  go_wp2
  go_ret2
  exact ⟨rfl, rfl⟩
theorem rfunction_any (k : Nat) (h1 : k < 64) (w : World) : Calls Tryz.prog 33 #[.int .i64 k] w fun e w' => e = .returned (.tuple #[.int .i64 (st.pr k).1, .bool (st.pr k).2.1]) ∧ w' = w := by
  have hc : k < 22 ∨ k = 63 ∨ k = 22 ∨ k = 23 ∨ k = 24 ∨ k = 25 ∨ k = 26 ∨ k = 27 ∨ k = 28 ∨ k = 29 ∨ k = 30 ∨ k = 31 ∨ k = 32 ∨ k = 33 ∨ k = 34 ∨ k = 35 ∨ k = 36 ∨ k = 37 ∨ k = 38 ∨ k = 39 ∨ k = 40 ∨ k = 41 ∨ k = 42 ∨ k = 43 ∨ k = 44 ∨ k = 45 ∨ k = 46 ∨ k = 47 ∨ k = 48 ∨ k = 49 ∨ k = 50 ∨ k = 51 ∨ k = 52 ∨ k = 53 ∨ k = 54 ∨ k = 55 ∨ k = 56 ∨ k = 57 ∨ k = 58 ∨ k = 59 ∨ k = 60 ∨ k = 61 ∨ k = 62 := by omega
  rcases hc with h | h | rfl | rfl | rfl | rfl | rfl | rfl | rfl | rfl | rfl | rfl | rfl | rfl | rfl | rfl | rfl | rfl | rfl | rfl | rfl | rfl | rfl | rfl | rfl | rfl | rfl | rfl | rfl | rfl | rfl | rfl | rfl | rfl | rfl | rfl | rfl | rfl | rfl | rfl | rfl | rfl | rfl
  · have e : (st.pr k) = (0, false, false) := by
      have hc : k = 0 ∨ k = 1 ∨ k = 2 ∨ k = 3 ∨ k = 4 ∨ k = 5 ∨ k = 6 ∨ k = 7 ∨ k = 8 ∨ k = 9 ∨ k = 10 ∨ k = 11 ∨ k = 12 ∨ k = 13 ∨ k = 14 ∨ k = 15 ∨ k = 16 ∨ k = 17 ∨ k = 18 ∨ k = 19 ∨ k = 20 ∨ k = 21 := by omega
      rcases hc with rfl | rfl | rfl | rfl | rfl | rfl | rfl | rfl | rfl | rfl | rfl | rfl | rfl | rfl | rfl | rfl | rfl | rfl | rfl | rfl | rfl | rfl <;> rfl
    rw [e]
    exact rfunction_no k (by omega) 0 false (fun w => rproduct_no k (by omega) w) w
  · subst h
    exact rfunction_no 63 (by omega) 0 false (fun w => rproduct_no 63 (by omega) w) w
  · exact rfunction22 w
  · exact rfunction23 w
  · exact rfunction24 w
  · exact rfunction25 w
  · exact rfunction26 w
  · exact rfunction27 w
  · exact rfunction28 w
  · exact rfunction29 w
  · exact rfunction30 w
  · exact rfunction31 w
  · exact rfunction32 w
  · exact rfunction33 w
  · exact rfunction34 w
  · exact rfunction35 w
  · exact rfunction36 w
  · exact rfunction37 w
  · exact rfunction38 w
  · exact rfunction39 w
  · exact rfunction40 w
  · exact rfunction41 w
  · exact rfunction42 w
  · exact rfunction43 w
  · exact rfunction44 w
  · exact rfunction45 w
  · exact rfunction46 w
  · exact rfunction47 w
  · exact rfunction48 w
  · exact rfunction49 w
  · exact rfunction_no 50 (by omega) 3 false (fun w => rproduct50 w) w
  · exact rfunction_no 51 (by omega) 4 false (fun w => rproduct51 w) w
  · exact rfunction_no 52 (by omega) 6 false (fun w => rproduct52 w) w
  · exact rfunction_no 53 (by omega) 5 false (fun w => rproduct53 w) w
  · exact rfunction_no 54 (by omega) 7 false (fun w => rproduct54 w) w
  · exact rfunction_no 55 (by omega) 8 false (fun w => rproduct55 w) w
  · exact rfunction_no 56 (by omega) 9 false (fun w => rproduct56 w) w
  · exact rfunction_no 57 (by omega) 10 false (fun w => rproduct57 w) w
  · exact rfunction_no 58 (by omega) 3 true (fun w => rproduct58 w) w
  · exact rfunction_no 59 (by omega) 7 true (fun w => rproduct59 w) w
  · exact rfunction_no 60 (by omega) 8 true (fun w => rproduct60 w) w
  · exact rfunction_no 61 (by omega) 9 true (fun w => rproduct61 w) w
  · exact rfunction_no 62 (by omega) 10 true (fun w => rproduct62 w) w
theorem rtakes5 (x y : Int) (w : World) (x0 : 0 ≤ x) (x1 : x < 18446744073709551616) (y0 : 0 ≤ y) (y1 : y < 18446744073709551616) : Calls Tryz.prog 58 #[.int .i64 5, .int .u64 x, .int .u64 y] w fun e w' => e = .returned (.bool (st.taken 5 x y)) ∧ w' = w := by
  have HD := bl.hid (rdo_any 17 x y w x0 x1 y0 y1)
  have HL : Hid (wd.doV 17 x y = if st.sg x < st.sg y then 1 else 0) := bl.hid (st.doV_lt x y x0 x1 y0 y1)
  have HT : Hid (st.taken 5 x y = (x == y)) := bl.hid (by show decide (x = y) = _; by_cases h : x = y <;> simp [h])
  rw [HT.out]
  obtain ⟨z, hz⟩ : ∃ z, wd.doV 17 x y = z := ⟨_, rfl⟩
  rw [hz] at HD
  clear hz HL HT
  go_enter Tryz.func58, Tryz.ntmps58
  go_wp2_with fail
  refine HD.out.mono ?_
  rintro e w1 ⟨rfl, hw⟩
  subst hw
  go_wp2
  go_ret
  exact ⟨rfl, rfl⟩
theorem rtakes6 (x y : Int) (w : World) (x0 : 0 ≤ x) (x1 : x < 18446744073709551616) (y0 : 0 ≤ y) (y1 : y < 18446744073709551616) : Calls Tryz.prog 58 #[.int .i64 6, .int .u64 x, .int .u64 y] w fun e w' => e = .returned (.bool (st.taken 6 x y)) ∧ w' = w := by
  have HD := bl.hid (rdo_any 17 x y w x0 x1 y0 y1)
  have HL : Hid (wd.doV 17 x y = if st.sg x < st.sg y then 1 else 0) := bl.hid (st.doV_lt x y x0 x1 y0 y1)
  have HT : Hid (st.taken 6 x y = (x != y)) := bl.hid (by show decide (x ≠ y) = _; by_cases h : x = y <;> simp [h])
  rw [HT.out]
  obtain ⟨z, hz⟩ : ∃ z, wd.doV 17 x y = z := ⟨_, rfl⟩
  rw [hz] at HD
  clear hz HL HT
  go_enter Tryz.func58, Tryz.ntmps58
  go_wp2_with fail
  refine HD.out.mono ?_
  rintro e w1 ⟨rfl, hw⟩
  subst hw
  go_wp2
  go_ret
  exact ⟨rfl, rfl⟩
theorem rtakes7 (x y : Int) (w : World) (x0 : 0 ≤ x) (x1 : x < 18446744073709551616) (y0 : 0 ≤ y) (y1 : y < 18446744073709551616) : Calls Tryz.prog 58 #[.int .i64 7, .int .u64 x, .int .u64 y] w fun e w' => e = .returned (.bool (st.taken 7 x y)) ∧ w' = w := by
  have HD := bl.hid (rdo_any 17 x y w x0 x1 y0 y1)
  have HL : Hid (wd.doV 17 x y = if st.sg x < st.sg y then 1 else 0) := bl.hid (st.doV_lt x y x0 x1 y0 y1)
  have HT : Hid (st.taken 7 x y = (wd.doV 17 x y == 1)) := bl.hid (by rw [HL.out]; show decide (st.sg x < st.sg y) = _; by_cases h : st.sg x < st.sg y <;> simp [h])
  rw [HT.out]
  obtain ⟨z, hz⟩ : ∃ z, wd.doV 17 x y = z := ⟨_, rfl⟩
  rw [hz] at HD ⊢
  clear hz HL HT
  go_enter Tryz.func58, Tryz.ntmps58
  go_wp2_with fail
  refine HD.out.mono ?_
  rintro e w1 ⟨rfl, hw⟩
  subst hw
  go_wp2
  go_ret
  exact ⟨rfl, rfl⟩
theorem rtakes8 (x y : Int) (w : World) (x0 : 0 ≤ x) (x1 : x < 18446744073709551616) (y0 : 0 ≤ y) (y1 : y < 18446744073709551616) : Calls Tryz.prog 58 #[.int .i64 8, .int .u64 x, .int .u64 y] w fun e w' => e = .returned (.bool (st.taken 8 x y)) ∧ w' = w := by
  have HD := bl.hid (rdo_any 17 x y w x0 x1 y0 y1)
  have HL : Hid (wd.doV 17 x y = if st.sg x < st.sg y then 1 else 0) := bl.hid (st.doV_lt x y x0 x1 y0 y1)
  have HT : Hid (st.taken 8 x y = (wd.doV 17 x y == 0)) := bl.hid (by rw [HL.out]; show decide (st.sg y ≤ st.sg x) = _; by_cases h : st.sg x < st.sg y <;> simp [h] <;> omega)
  rw [HT.out]
  obtain ⟨z, hz⟩ : ∃ z, wd.doV 17 x y = z := ⟨_, rfl⟩
  rw [hz] at HD ⊢
  clear hz HL HT
  go_enter Tryz.func58, Tryz.ntmps58
  go_wp2_with fail
  refine HD.out.mono ?_
  rintro e w1 ⟨rfl, hw⟩
  subst hw
  go_wp2
  go_ret
  exact ⟨rfl, rfl⟩
theorem rtakes9 (x y : Int) (w : World) (x0 : 0 ≤ x) (x1 : x < 18446744073709551616) (y0 : 0 ≤ y) (y1 : y < 18446744073709551616) : Calls Tryz.prog 58 #[.int .i64 9, .int .u64 x, .int .u64 y] w fun e w' => e = .returned (.bool (st.taken 9 x y)) ∧ w' = w := by
  have HD := bl.hid (rdo_any 17 x y w x0 x1 y0 y1)
  have HL : Hid (wd.doV 17 x y = if st.sg x < st.sg y then 1 else 0) := bl.hid (st.doV_lt x y x0 x1 y0 y1)
  have HT : Hid (st.taken 9 x y = decide (x < y)) := bl.hid (rfl)
  rw [HT.out]
  obtain ⟨z, hz⟩ : ∃ z, wd.doV 17 x y = z := ⟨_, rfl⟩
  rw [hz] at HD
  clear hz HL HT
  go_enter Tryz.func58, Tryz.ntmps58
  go_wp2_with fail
  refine HD.out.mono ?_
  rintro e w1 ⟨rfl, hw⟩
  subst hw
  go_wp2
  go_ret
  exact ⟨rfl, rfl⟩
theorem rtakes10 (x y : Int) (w : World) (x0 : 0 ≤ x) (x1 : x < 18446744073709551616) (y0 : 0 ≤ y) (y1 : y < 18446744073709551616) : Calls Tryz.prog 58 #[.int .i64 10, .int .u64 x, .int .u64 y] w fun e w' => e = .returned (.bool (st.taken 10 x y)) ∧ w' = w := by
  have HD := bl.hid (rdo_any 17 x y w x0 x1 y0 y1)
  have HL : Hid (wd.doV 17 x y = if st.sg x < st.sg y then 1 else 0) := bl.hid (st.doV_lt x y x0 x1 y0 y1)
  have HT : Hid (st.taken 10 x y = decide (y ≤ x)) := bl.hid (rfl)
  rw [HT.out]
  obtain ⟨z, hz⟩ : ∃ z, wd.doV 17 x y = z := ⟨_, rfl⟩
  rw [hz] at HD
  clear hz HL HT
  go_enter Tryz.func58, Tryz.ntmps58
  go_wp2_with fail
  refine HD.out.mono ?_
  rintro e w1 ⟨rfl, hw⟩
  subst hw
  go_wp2
  go_ret
  exact ⟨rfl, rfl⟩
theorem rtakes_any (op x y : Int) (w : World) (h : 5 ≤ op ∧ op ≤ 10) (x0 : 0 ≤ x) (x1 : x < 18446744073709551616) (y0 : 0 ≤ y) (y1 : y < 18446744073709551616) : Calls Tryz.prog 58 #[.int .i64 op, .int .u64 x, .int .u64 y] w fun e w' => e = .returned (.bool (st.taken op x y)) ∧ w' = w := by
  have : op = 5 ∨ op = 6 ∨ op = 7 ∨ op = 8 ∨ op = 9 ∨ op = 10 := by omega
  rcases this with rfl | rfl | rfl | rfl | rfl | rfl
  · exact rtakes5 x y w x0 x1 y0 y1
  · exact rtakes6 x y w x0 x1 y0 y1
  · exact rtakes7 x y w x0 x1 y0 y1
  · exact rtakes8 x y w x0 x1 y0 y1
  · exact rtakes9 x y w x0 x1 y0 y1
  · exact rtakes10 x y w x0 x1 y0 y1
end Go.Proofs.YtjjkocklpcdbkaaGreat
