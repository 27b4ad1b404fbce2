/- sizes: how many bytes a load or a store has. -/
import Derived.Test.YtjjkocklpcdbkaaGreatStDeeds
namespace Go.Proofs.YtjjkocklpcdbkaaGreat
open Go.RowKit
set_option linter.unusedVariables false
set_option maxRecDepth 100000
namespace st
/-- how many bytes a load or a store has -/
def szN (x : Int) : Int := if x = 11 ∨ x = 15 ∨ x = 18 then 1 else if x = 12 ∨ x = 16 ∨ x = 19 then 2 else if x = 13 ∨ x = 17 ∨ x = 20 then 4 else if x = 14 ∨ x = 21 then 8 else 0
def szS (x : Int) : Bool := decide (11 ≤ x ∧ x ≤ 14)
def szV (x : Int) : Value := .agg #[.int .i64 (szN x), .bool (szS x)]
theorem szV_all : (fun y => if y = 21 then Value.agg #[.int .i64 8, .bool false] else if y = 20 then Value.agg #[.int .i64 4, .bool false] else if y = 19 then Value.agg #[.int .i64 2, .bool false] else if y = 18 then Value.agg #[.int .i64 1, .bool false] else if y = 17 then Value.agg #[.int .i64 4, .bool false] else if y = 16 then Value.agg #[.int .i64 2, .bool false] else if y = 15 then Value.agg #[.int .i64 1, .bool false] else if y = 14 then Value.agg #[.int .i64 8, .bool true] else if y = 13 then Value.agg #[.int .i64 4, .bool true] else if y = 12 then Value.agg #[.int .i64 2, .bool true] else if y = 11 then Value.agg #[.int .i64 1, .bool true] else Value.agg #[.int .i64 0, .bool false]) = szV := by
  funext y
  by_cases h21 : y = 21
  · subst h21; rfl
  by_cases h20 : y = 20
  · subst h20; rfl
  by_cases h19 : y = 19
  · subst h19; rfl
  by_cases h18 : y = 18
  · subst h18; rfl
  by_cases h17 : y = 17
  · subst h17; rfl
  by_cases h16 : y = 16
  · subst h16; rfl
  by_cases h15 : y = 15
  · subst h15; rfl
  by_cases h14 : y = 14
  · subst h14; rfl
  by_cases h13 : y = 13
  · subst h13; rfl
  by_cases h12 : y = 12
  · subst h12; rfl
  by_cases h11 : y = 11
  · subst h11; rfl
  rw [if_neg h21, if_neg h20, if_neg h19, if_neg h18, if_neg h17, if_neg h16, if_neg h15, if_neg h14, if_neg h13, if_neg h12, if_neg h11]
  unfold szV szN szS
  rw [if_neg (by omega), if_neg (by omega), if_neg (by omega), if_neg (by omega), decide_eq_false (by omega)]
end st
/-- what sizes tells -/
def SizesPost (w : World) (e : Ending) (w' : World) : Prop := ∃ b, e = .returned (.map (some b)) ∧ w.heap.size ≤ b ∧ kt.ValMap Tryz.prog 3 w' b 11 (.agg #[.int .i64 0, .bool false]) st.szV ∧ Below w.heap.size w w'
set_option maxHeartbeats 1600000 in
theorem sizes_any (w : World) : Calls Tryz.prog 103 #[] w (SizesPost w) := by
  have hmm := @run_makeMap Tryz.prog
  have M0 := kt.ValMap.made w Tryz.prog 3 (.agg #[.int .i64 0, .bool false])
  have B0 : Below w.heap.size w (w.alloc (.map #[] 0)) := (Below.refl _ w).alloc (Nat.le_refl _) _
  have S0 : w.heap.size ≤ (w.alloc (.map #[] 0)).heap.size := by rw [World.size_alloc]; omega
  obtain ⟨w1, r1, M1, g1⟩ := M0.put (t := 147) (e := 146) Tryz.underlying3 Tryz.underlying147 (by unfold maxLen; omega) 11 (.agg #[.int .i64 1, .bool true]) (wf63 11 (by omega))
  obtain ⟨B1, S1⟩ := below_map B0 S0 g1 (Nat.le_refl _)
  obtain ⟨w2, r2, M2, g2⟩ := M1.put (t := 147) (e := 146) Tryz.underlying3 Tryz.underlying147 (by unfold maxLen; omega) 12 (.agg #[.int .i64 2, .bool true]) (wf63 12 (by omega))
  obtain ⟨B2, S2⟩ := below_map B1 S1 g2 (Nat.le_refl _)
  obtain ⟨w3, r3, M3, g3⟩ := M2.put (t := 147) (e := 146) Tryz.underlying3 Tryz.underlying147 (by unfold maxLen; omega) 13 (.agg #[.int .i64 4, .bool true]) (wf63 13 (by omega))
  obtain ⟨B3, S3⟩ := below_map B2 S2 g3 (Nat.le_refl _)
  obtain ⟨w4, r4, M4, g4⟩ := M3.put (t := 147) (e := 146) Tryz.underlying3 Tryz.underlying147 (by unfold maxLen; omega) 14 (.agg #[.int .i64 8, .bool true]) (wf63 14 (by omega))
  obtain ⟨B4, S4⟩ := below_map B3 S3 g4 (Nat.le_refl _)
  obtain ⟨w5, r5, M5, g5⟩ := M4.put (t := 147) (e := 146) Tryz.underlying3 Tryz.underlying147 (by unfold maxLen; omega) 15 (.agg #[.int .i64 1, .bool false]) (wf63 15 (by omega))
  obtain ⟨B5, S5⟩ := below_map B4 S4 g5 (Nat.le_refl _)
  obtain ⟨w6, r6, M6, g6⟩ := M5.put (t := 147) (e := 146) Tryz.underlying3 Tryz.underlying147 (by unfold maxLen; omega) 16 (.agg #[.int .i64 2, .bool false]) (wf63 16 (by omega))
  obtain ⟨B6, S6⟩ := below_map B5 S5 g6 (Nat.le_refl _)
  obtain ⟨w7, r7, M7, g7⟩ := M6.put (t := 147) (e := 146) Tryz.underlying3 Tryz.underlying147 (by unfold maxLen; omega) 17 (.agg #[.int .i64 4, .bool false]) (wf63 17 (by omega))
  obtain ⟨B7, S7⟩ := below_map B6 S6 g7 (Nat.le_refl _)
  obtain ⟨w8, r8, M8, g8⟩ := M7.put (t := 147) (e := 146) Tryz.underlying3 Tryz.underlying147 (by unfold maxLen; omega) 18 (.agg #[.int .i64 1, .bool false]) (wf63 18 (by omega))
  obtain ⟨B8, S8⟩ := below_map B7 S7 g8 (Nat.le_refl _)
  obtain ⟨w9, r9, M9, g9⟩ := M8.put (t := 147) (e := 146) Tryz.underlying3 Tryz.underlying147 (by unfold maxLen; omega) 19 (.agg #[.int .i64 2, .bool false]) (wf63 19 (by omega))
  obtain ⟨B9, S9⟩ := below_map B8 S8 g9 (Nat.le_refl _)
  obtain ⟨w10, r10, M10, g10⟩ := M9.put (t := 147) (e := 146) Tryz.underlying3 Tryz.underlying147 (by unfold maxLen; omega) 20 (.agg #[.int .i64 4, .bool false]) (wf63 20 (by omega))
  obtain ⟨B10, S10⟩ := below_map B9 S9 g10 (Nat.le_refl _)
  obtain ⟨w11, r11, M11, g11⟩ := M10.put (t := 147) (e := 146) Tryz.underlying3 Tryz.underlying147 (by unfold maxLen; omega) 21 (.agg #[.int .i64 8, .bool false]) (wf63 21 (by omega))
  obtain ⟨B11, S11⟩ := below_map B10 S10 g11 (Nat.le_refl _)
  have HE : Hid (SizesPost w (.returned (.map (some w.heap.size))) w11) := bl.hid ⟨_, rfl, Nat.le_refl _, by rw [← st.szV_all]; exact M11, B11⟩
  clear M0 B0 S0 M1 B1 S1 M2 B2 S2 M3 B3 S3 M4 B4 S4 M5 B5 S5 M6 B6 S6 M7 B7 S7 M8 B8 S8 M9 B9 S9 M10 B10 S10 M11 B11 S11 g1 g2 g3 g4 g5 g6 g7 g8 g9 g10 g11
  go_enter Tryz.func103, Tryz.ntmps103
  go_wp2
  go_ret
  exact HE.out
theorem SizesPost.look {w w' : World} {e : Ending} (h : SizesPost w e w') : ∃ b, e = .returned (.map (some b)) ∧ Below w.heap.size w w' ∧ b < w'.heap.size ∧ ∀ (x : Int) (wx : World), (Lit.int .i64 x).wf = true → wx.heap[b]? = w'.heap[b]? → (Instr.lookup 147 (.map (some b)) (.int .i64 x) false).run Tryz.prog wx = .ok (.agg #[.int .i64 (st.szN x), .bool (st.szS x)]) wx := by
  obtain ⟨b, h1, h2, h3, h4⟩ := h
  exact ⟨b, h1, h4, h3.lt, fun x wx hx hw => (h3.kept hw).look (e := 146) Tryz.underlying3 Tryz.underlying147 size_zero x hx⟩
theorem DeedsPost.look {w w' : World} {b : Nat} (h : kt.ValMap Tryz.prog 3 w b 100 .nilFunc st.deed) (x : Int) (wx : World) (hx : (Lit.int .i64 x).wf = true) (hw : wx.heap[b]? = w.heap[b]?) :
    (Instr.lookup 67 (.map (some b)) (.int .i64 x) false).run Tryz.prog wx = .ok (st.deed x) wx :=
  (h.kept hw).look (e := 75) Tryz.underlying3 Tryz.underlying67 does_zero x hx
end Go.Proofs.YtjjkocklpcdbkaaGreat
