/- deeds: what instructions do, by their operations; sizes. -/
import Derived.Test.YtjjkocklpcdbkaaGreatStMap
import Derived.Test.YtjjkocklpcdbkaaGreatRows
import Derived.WalkKit
namespace Go.Proofs.YtjjkocklpcdbkaaGreat
open Go.RowKit
set_option linter.unusedVariables false
set_option maxRecDepth 100000
namespace st
def fU : Value := .func (.func 83) #[] #[]
def fJ : Value := .func (.func 84) #[] #[]
def fB : Value := .func (.func 86) #[] #[]
def fL : Value := .func (.func 87) #[] #[]
def fS : Value := .func (.func 88) #[] #[]
def fP : Value := .func (.func 89) #[] #[]
def fC : Value := .func (.func 85) #[] #[]
/-- what an operation's instruction does -/
def deed (x : Int) : Value :=
  if x = 1 ∨ x = 2 then fU else if x = 3 ∨ x = 4 then fJ else if 5 ≤ x ∧ x ≤ 10 then fB else if 11 ≤ x ∧ x ≤ 17 then fL else if 18 ≤ x ∧ x ≤ 21 then fS else if 22 ≤ x ∧ x ≤ 62 then fP else if x = 63 then fC else .nilFunc
/-- the same, as far as the loops have come -/
def deedTo (m x : Int) : Value := if x < m ∨ x = 63 then deed x else .nilFunc
theorem deedTo_step (m : Int) (hm : 5 ≤ m ∧ m ≤ 62) (v : Value) (hv : deed m = v) : (fun y => if y = m then v else deedTo m y) = deedTo (m + 1) := by
  funext y
  unfold deedTo
  by_cases h : y = m
  · rw [if_pos h, if_pos (by omega), h, hv]
  · rw [if_neg h]
    by_cases h2 : y < m ∨ y = 63
    · rw [if_pos h2, if_pos (by omega)]
    · rw [if_neg h2, if_neg (by omega)]
theorem deedTo_all : deedTo 63 = deed := by
  funext y
  unfold deedTo
  by_cases h : y < 63 ∨ y = 63
  · rw [if_pos h]
  · rw [if_neg h]
    unfold deed
    rw [if_neg (by omega), if_neg (by omega), if_neg (by omega), if_neg (by omega), if_neg (by omega), if_neg (by omega), if_neg (by omega)]
theorem deed_first : (fun y => if y = 63 then fC else if y = 4 then fJ else if y = 3 then fJ else if y = 2 then fU else if y = 1 then fU else Value.nilFunc) = deedTo 5 := by
  funext y
  unfold deedTo deed
  by_cases h0 : y = 63
  · subst h0; rfl
  by_cases h4 : y = 4
  · subst h4; rfl
  by_cases h3 : y = 3
  · subst h3; rfl
  by_cases h2 : y = 2
  · subst h2; rfl
  by_cases h1 : y = 1
  · subst h1; rfl
  rw [if_neg h0, if_neg h4, if_neg h3, if_neg h2, if_neg h1]
  by_cases h : y < 5 ∨ y = 63
  · rw [if_pos h, if_neg (by omega), if_neg (by omega), if_neg (by omega), if_neg (by omega), if_neg (by omega), if_neg (by omega), if_neg (by omega)]
  · rw [if_neg h]
theorem deed_B (m : Int) (h : 5 ≤ m ∧ m ≤ 10) : deed m = fB := by
  unfold deed
  rw [if_neg (by omega), if_neg (by omega), if_pos h]
theorem deed_L (m : Int) (h : 11 ≤ m ∧ m ≤ 17) : deed m = fL := by
  unfold deed
  rw [if_neg (by omega), if_neg (by omega), if_neg (by omega), if_pos h]
theorem deed_S (m : Int) (h : 18 ≤ m ∧ m ≤ 21) : deed m = fS := by
  unfold deed
  rw [if_neg (by omega), if_neg (by omega), if_neg (by omega), if_neg (by omega), if_pos h]
theorem deed_P (m : Int) (h : 22 ≤ m ∧ m ≤ 62) : deed m = fP := by
  unfold deed
  rw [if_neg (by omega), if_neg (by omega), if_neg (by omega), if_neg (by omega), if_neg (by omega), if_pos h]
end st
theorem does_zero (w : World) : (zeroValue 75).run Tryz.prog w = .ok .nilFunc w := by kernel_rfl
theorem size_zero (w : World) : (zeroValue 146).run Tryz.prog w = .ok (.agg #[.int .i64 0, .bool false]) w := by kernel_rfl
theorem kt.ValMap.mono {P : Program} {k : TypeId} {z : Value} {w : World} {b n m : Nat} {f : Int → Value} (h : kt.ValMap P k w b n z f) (hm : n ≤ m) : kt.ValMap P k w b m z f := by
  obtain ⟨D, hD, h1, hf⟩ := h
  exact ⟨D, hD, h1.mono hm, hf⟩
/-- what deeds tells -/
def DeedsPost (w : World) (e : Ending) (w' : World) : Prop := ∃ b, e = .returned (.map (some b)) ∧ w.heap.size ≤ b ∧ kt.ValMap Tryz.prog 3 w' b 100 .nilFunc st.deed ∧ Below w.heap.size w w'
theorem wf63 (n : Nat) (h : n ≤ 100) : (Lit.int .i64 (n : Int)).wf = true := WalkArith.wf_i64 (by omega)
theorem below_map {w w1 : World} {B b : Nat} {a : World} (h : Below B a w) (hs : B ≤ w.heap.size) (hg : w.grownBy w1 (some b)) (hb : B ≤ b) : Below B a w1 ∧ B ≤ w1.heap.size :=
  ⟨h.grown hg hs (fun k hk => by injection hk with hk; omega), Nat.le_trans hs hg.size⟩
set_option maxHeartbeats 1600000 in
theorem deeds_any (w : World) : Calls Tryz.prog 64 #[] w (DeedsPost w) := by
  have hmm := @run_makeMap Tryz.prog
  have M0 := kt.ValMap.made w Tryz.prog 3 .nilFunc
  have B0 : Below w.heap.size w (w.alloc (.map #[] 0)) := (Below.refl _ w).alloc (Nat.le_refl _) _
  have S0 : w.heap.size ≤ (w.alloc (.map #[] 0)).heap.size := by rw [World.size_alloc]; omega
  obtain ⟨w1, r1, M1, g1⟩ := M0.put (t := 67) (e := 75) Tryz.underlying3 Tryz.underlying67 (by unfold maxLen; omega) 1 st.fU (wf63 1 (by omega))
  obtain ⟨B1, S1⟩ := below_map B0 S0 g1 (Nat.le_refl _)
  obtain ⟨w2, r2, M2, g2⟩ := M1.put (t := 67) (e := 75) Tryz.underlying3 Tryz.underlying67 (by unfold maxLen; omega) 2 st.fU (wf63 2 (by omega))
  obtain ⟨B2, S2⟩ := below_map B1 S1 g2 (Nat.le_refl _)
  obtain ⟨w3, r3, M3, g3⟩ := M2.put (t := 67) (e := 75) Tryz.underlying3 Tryz.underlying67 (by unfold maxLen; omega) 3 st.fJ (wf63 3 (by omega))
  obtain ⟨B3, S3⟩ := below_map B2 S2 g3 (Nat.le_refl _)
  obtain ⟨w4, r4, M4, g4⟩ := M3.put (t := 67) (e := 75) Tryz.underlying3 Tryz.underlying67 (by unfold maxLen; omega) 4 st.fJ (wf63 4 (by omega))
  obtain ⟨B4, S4⟩ := below_map B3 S3 g4 (Nat.le_refl _)
  obtain ⟨w5, r5, M5, g5⟩ := M4.put (t := 67) (e := 75) Tryz.underlying3 Tryz.underlying67 (by unfold maxLen; omega) 63 st.fC (wf63 63 (by omega))
  obtain ⟨B5, S5⟩ := below_map B4 S4 g5 (Nat.le_refl _)
  have HM : Hid (kt.ValMap Tryz.prog 3 w5 w.heap.size 5 .nilFunc (st.deedTo 5)) := bl.hid (by rw [← st.deed_first]; exact M5)
  have HB : Hid (Below w.heap.size w w5 ∧ w.heap.size ≤ w5.heap.size) := bl.hid ⟨B5, S5⟩
  clear M0 M1 M2 M3 M4 M5 B0 B1 B2 B3 B4 B5 S0 S1 S2 S3 S4 S5 g1 g2 g3 g4 g5
  unfold st.fU st.fJ st.fC at *
  go_enter Tryz.func64, Tryz.ntmps64
  go_wp2
  clear r1 r2 r3 r4 r5
  go_loopw [2] (fun v wr => ∃ k : Nat, 5 ≤ k ∧ k ≤ 11 ∧ v = .int .i64 k ∧ kt.ValMap Tryz.prog 3 wr w.heap.size k .nilFunc (st.deedTo k) ∧ Below w.heap.size w wr ∧ w.heap.size ≤ wr.heap.size) (fun v _ => 11 - (intOf v).toNat)
  case atStart => exact ⟨5, by omega, by omega, rfl, HM.out, HB.out.1, HB.out.2⟩
  case round =>
    obtain ⟨k, hk0, hk1, rfl, hM, hB, hS⟩ := hrel
    by_cases hlt : k ≤ 10
    · obtain ⟨w1, r1, M1, g1⟩ := hM.put (t := 67) (e := 75) Tryz.underlying3 Tryz.underlying67 (by unfold maxLen; omega) k st.fB (wf63 k (by omega))
      obtain ⟨B1, S1⟩ := below_map hB hS g1 (Nat.le_refl _)
      have HM1 : Hid (kt.ValMap Tryz.prog 3 w1 w.heap.size (k + 1) .nilFunc (st.deedTo ((k + 1 : Nat) : Int))) := bl.hid (by
        have e := st.deedTo_step k (by omega) st.fB (st.deed_B k (by omega))
        rw [show ((k + 1 : Nat) : Int) = (k : Int) + 1 by omega, ← e]
        exact M1)
      have HB1 := bl.hid B1
      clear hM M1 B1 hB g1
      unfold st.fB at r1
      go_wp2
      exact ⟨⟨k + 1, by omega, by omega, by go_num, HM1.out, HB1.out, S1⟩, by simp [intOf]; omega⟩
    · obtain rfl : k = 11 := by omega
      have HM := bl.hid hM
      have HB := bl.hid (And.intro hB hS)
      clear hM hB hS
      go_wp2
      go_loopw [3] (fun v wr => ∃ k : Nat, 11 ≤ k ∧ k ≤ 18 ∧ v = .int .i64 k ∧ kt.ValMap Tryz.prog 3 wr w.heap.size k .nilFunc (st.deedTo k) ∧ Below w.heap.size w wr ∧ w.heap.size ≤ wr.heap.size) (fun v _ => 18 - (intOf v).toNat)
      case atStart => exact ⟨11, by omega, by omega, rfl, HM.out, HB.out.1, HB.out.2⟩
      case round =>
        obtain ⟨k, hk0, hk1, rfl, hM, hB, hS⟩ := hrel
        by_cases hlt : k ≤ 17
        · obtain ⟨w1, r1, M1, g1⟩ := hM.put (t := 67) (e := 75) Tryz.underlying3 Tryz.underlying67 (by unfold maxLen; omega) k st.fL (wf63 k (by omega))
          obtain ⟨B1, S1⟩ := below_map hB hS g1 (Nat.le_refl _)
          have HM1 : Hid (kt.ValMap Tryz.prog 3 w1 w.heap.size (k + 1) .nilFunc (st.deedTo ((k + 1 : Nat) : Int))) := bl.hid (by
            have e := st.deedTo_step k (by omega) st.fL (st.deed_L k (by omega))
            rw [show ((k + 1 : Nat) : Int) = (k : Int) + 1 by omega, ← e]
            exact M1)
          have HB1 := bl.hid B1
          clear hM M1 B1 hB g1
          unfold st.fL at r1
          go_wp2
          exact ⟨⟨k + 1, by omega, by omega, by go_num, HM1.out, HB1.out, S1⟩, by simp [intOf]; omega⟩
        · obtain rfl : k = 18 := by omega
          have HM := bl.hid hM
          have HB := bl.hid (And.intro hB hS)
          clear hM hB hS
          go_wp2
          go_loopw [4] (fun v wr => ∃ k : Nat, 18 ≤ k ∧ k ≤ 22 ∧ v = .int .i64 k ∧ kt.ValMap Tryz.prog 3 wr w.heap.size k .nilFunc (st.deedTo k) ∧ Below w.heap.size w wr ∧ w.heap.size ≤ wr.heap.size) (fun v _ => 22 - (intOf v).toNat)
          case atStart => exact ⟨18, by omega, by omega, rfl, HM.out, HB.out.1, HB.out.2⟩
          case round =>
            obtain ⟨k, hk0, hk1, rfl, hM, hB, hS⟩ := hrel
            by_cases hlt : k ≤ 21
            · obtain ⟨w1, r1, M1, g1⟩ := hM.put (t := 67) (e := 75) Tryz.underlying3 Tryz.underlying67 (by unfold maxLen; omega) k st.fS (wf63 k (by omega))
              obtain ⟨B1, S1⟩ := below_map hB hS g1 (Nat.le_refl _)
              have HM1 : Hid (kt.ValMap Tryz.prog 3 w1 w.heap.size (k + 1) .nilFunc (st.deedTo ((k + 1 : Nat) : Int))) := bl.hid (by
                have e := st.deedTo_step k (by omega) st.fS (st.deed_S k (by omega))
                rw [show ((k + 1 : Nat) : Int) = (k : Int) + 1 by omega, ← e]
                exact M1)
              have HB1 := bl.hid B1
              clear hM M1 B1 hB g1
              unfold st.fS at r1
              go_wp2
              exact ⟨⟨k + 1, by omega, by omega, by go_num, HM1.out, HB1.out, S1⟩, by simp [intOf]; omega⟩
            · obtain rfl : k = 22 := by omega
              have HM := bl.hid hM
              have HB := bl.hid (And.intro hB hS)
              clear hM hB hS
              go_wp2
              go_loopw [5] (fun v wr => ∃ k : Nat, 22 ≤ k ∧ k ≤ 63 ∧ v = .int .i64 k ∧ kt.ValMap Tryz.prog 3 wr w.heap.size k .nilFunc (st.deedTo k) ∧ Below w.heap.size w wr ∧ w.heap.size ≤ wr.heap.size) (fun v _ => 63 - (intOf v).toNat)
              case atStart => exact ⟨22, by omega, by omega, rfl, HM.out, HB.out.1, HB.out.2⟩
              case round =>
                obtain ⟨k, hk0, hk1, rfl, hM, hB, hS⟩ := hrel
                by_cases hlt : k ≤ 62
                · obtain ⟨w1, r1, M1, g1⟩ := hM.put (t := 67) (e := 75) Tryz.underlying3 Tryz.underlying67 (by unfold maxLen; omega) k st.fP (wf63 k (by omega))
                  obtain ⟨B1, S1⟩ := below_map hB hS g1 (Nat.le_refl _)
                  have HM1 : Hid (kt.ValMap Tryz.prog 3 w1 w.heap.size (k + 1) .nilFunc (st.deedTo ((k + 1 : Nat) : Int))) := bl.hid (by
                    have e := st.deedTo_step k (by omega) st.fP (st.deed_P k (by omega))
                    rw [show ((k + 1 : Nat) : Int) = (k : Int) + 1 by omega, ← e]
                    exact M1)
                  have HB1 := bl.hid B1
                  clear hM M1 B1 hB g1
                  unfold st.fP at r1
                  go_wp2
                  exact ⟨⟨k + 1, by omega, by omega, by go_num, HM1.out, HB1.out, S1⟩, by simp [intOf]; omega⟩
                · obtain rfl : k = 63 := by omega
                  have HM := bl.hid hM
                  have HB := bl.hid (And.intro hB hS)
                  clear hM hB hS
                  go_wp2
                  go_ret
                  exact ⟨w.heap.size, rfl, Nat.le_refl _, by rw [← st.deedTo_all]; exact HM.out.mono (by omega), HB.out.1⟩
end Go.Proofs.YtjjkocklpcdbkaaGreat
