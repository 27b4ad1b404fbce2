/- Step, walked: any instruction. -/
import Derived.Test.YtjjkocklpcdbkaaGreatStPair
import Derived.Test.YtjjkocklpcdbkaaGreatStStore
namespace Go.Proofs.YtjjkocklpcdbkaaGreat
open Go.RowKit
set_option linter.unusedVariables false
set_option maxRecDepth 100000
/-- the function of an instruction, by its contract -/
theorem exec_any (P : st.Pl) (code : Nat → st.Told) (i : st.In) (hi : st.InOk i) : ∃ F, st.deed i.op = .func (.func F) #[] #[] ∧ (F = 83 ∨ F = 84 ∨ F = 86 ∨ F = 87 ∨ F = 88 ∨ F = 89 ∨ F = 85) ∧ ∀ w s, IsMach w P code s → Calls Tryz.prog F #[.pointer (some ⟨P.p, 0, none⟩), .agg i.cells] w (TurnPost P code (.int .i64 (st.exec i s).1) (st.exec i s).2 w) := by
  have hop := hi.op
  by_cases h2 : i.op ≤ 2
  · refine ⟨83, by unfold st.deed; rw [if_pos (by omega)]; rfl, by decide, fun w s h => ?_⟩
    unfold st.exec
    rw [if_pos h2]
    exact upper_any w P code s i h hi
  by_cases h4 : i.op ≤ 4
  · refine ⟨84, by unfold st.deed; rw [if_neg (by omega), if_pos (by omega)]; rfl, by decide, fun w s h => ?_⟩
    unfold st.exec
    rw [if_neg h2, if_pos h4]
    exact jump_any w P code s i h hi
  by_cases h10 : i.op ≤ 10
  · refine ⟨86, by rw [st.deed_B _ (by omega)]; rfl, by decide, fun w s h => ?_⟩
    unfold st.exec
    rw [if_neg h2, if_neg h4, if_pos h10]
    exact branch_any w P code s i h hi (by omega) (by omega)
  by_cases h17 : i.op ≤ 17
  · refine ⟨87, by rw [st.deed_L _ (by omega)]; rfl, by decide, fun w s h => ?_⟩
    unfold st.exec
    rw [if_neg h2, if_neg h4, if_neg h10, if_pos h17]
    exact mload_any w P code s i h hi (by omega) (by omega)
  by_cases h21 : i.op ≤ 21
  · refine ⟨88, by rw [st.deed_S _ (by omega)]; rfl, by decide, fun w s h => ?_⟩
    unfold st.exec
    rw [if_neg h2, if_neg h4, if_neg h10, if_neg h17, if_pos h21]
    exact mstore_any w P code s i h hi (by omega) (by omega)
  by_cases h62 : i.op ≤ 62
  · refine ⟨89, by rw [st.deed_P _ (by omega)]; rfl, by decide, fun w s h => ?_⟩
    unfold st.exec
    rw [if_neg h2, if_neg h4, if_neg h10, if_neg h17, if_neg h21, if_pos h62]
    exact mpair_any w P code s i h hi (by omega) (by omega)
  · refine ⟨85, by unfold st.deed; rw [if_neg (by omega), if_neg (by omega), if_neg (by omega), if_neg (by omega), if_neg (by omega), if_neg (by omega), if_pos (by omega)]; rfl, by decide, fun w s h => ?_⟩
    unfold st.exec
    rw [if_neg h2, if_neg h4, if_neg h10, if_neg h17, if_neg h21, if_neg h62]
    exact call_any w P code s i h
namespace st
/-- a step: how it ends, and what it leaves -/
def step (code : Nat → Told) (n : Nat) (s : S) : Int × S :=
  if s.pc % 4 ≠ 0 then (3, s)
  else if s.pc < 4294967296 ∨ (n : Int) ≤ (s.pc - 4294967296) / 4 then (4, s)
  else if (code ((s.pc - 4294967296) / 4).toNat).e ≠ 0 then (2, s)
  else exec (code ((s.pc - 4294967296) / 4).toNat).i s
end st
set_option maxHeartbeats 3200000 in
theorem step_any (w : World) (P : st.Pl) (code : Nat → st.Told) (s : st.S) (h : IsMach w P code s) :
    Calls Tryz.prog 10 #[.pointer (some ⟨P.p, 0, none⟩)] w (TurnPost P code (.int .i64 (st.step code P.n s).1) (st.step code P.n s).2 w) := by
  have hl := h.lt
  have hpc := h.ok.pc
  have c32 := h.pcC
  have c34 := h.codeC
  have hsm := h.small
  have HNn := bl.hid (mnone_any w P code s h)
  have HM := bl.hid h
  obtain ⟨pc, hpe⟩ : ∃ pc, s.pc = pc := ⟨_, rfl⟩
  rw [hpe] at hpc c32
  unfold st.isU at hpc
  obtain ⟨hp0, hp1⟩ := hpc
  obtain ⟨R, hR⟩ : ∃ R, st.step code P.n s = R := ⟨_, rfl⟩
  rw [hR]
  have HRe : Hid (R = if pc % 4 ≠ 0 then (3, s) else if pc < 4294967296 ∨ (P.n : Int) ≤ (pc - 4294967296) / 4 then (4, s) else if (code ((pc - 4294967296) / 4).toNat).e ≠ 0 then (2, s) else st.exec (code ((pc - 4294967296) / 4).toNat).i s) := bl.hid (by rw [← hR, ← hpe]; rfl)
  clear h hR hpe
  by_cases h4 : pc % 4 = 0
  rotate_left
  · have h4' : (pc % 4 != 0) = true := by simpa using h4
    have HE : Hid (TurnPost P code (.int .i64 R.1) R.2 w (.returned (.int .i64 3)) w) := bl.hid (by rw [HRe.out, if_pos h4]; exact ⟨rfl, HM.out, But2.refl _ _ _⟩)
    clear h4
    go_enter Tryz.func10, Tryz.ntmps10
    go_wp2_with fail
    refine HNn.out.mono ?_
    rintro e w1 ⟨rfl, rfl⟩
    go_wp2
    go_ret
    exact HE.out
  by_cases hb : pc < 4294967296
  · have HE : Hid (TurnPost P code (.int .i64 R.1) R.2 w (.returned (.int .i64 4)) w) := bl.hid (by rw [HRe.out, if_neg (by simp [h4]), if_pos (.inl hb)]; exact ⟨rfl, HM.out, But2.refl _ _ _⟩)
    have hd : decide (pc < 4294967296) = true := decide_eq_true hb
    clear hb
    go_enter Tryz.func10, Tryz.ntmps10
    go_wp2_with fail
    refine HNn.out.mono ?_
    rintro e w1 ⟨rfl, rfl⟩
    go_wp2
    go_ret
    exact HE.out
  obtain ⟨k, hk⟩ : ∃ k : Nat, pc = 4294967296 + 4 * k := ⟨((pc - 4294967296) / 4).toNat, by omega⟩
  have hq : (pc - 4294967296) / 4 = k := by omega
  rw [hq, Int.toNat_natCast] at HRe
  have hw : IntKind.u64.wrap (pc - 4294967296) = 4 * k := by rw [wrap_u]; unfold st.u64; omega
  have hw2 : (4 * (k : Int)) / 4 = k := by omega
  have hw3 : (4 * (k : Int)).tdiv 4 = k := by rw [Int.tdiv_eq_ediv_of_nonneg (by omega)]; omega
  have hd : decide (pc < 4294967296) = false := decide_eq_false hb
  have hk9 : (k : Int) < 4611686018427387904 := by omega
  have hk8 : (0 : Int) ≤ k := by omega
  clear hq hk
  by_cases hn : P.n ≤ k
  · have HE : Hid (TurnPost P code (.int .i64 R.1) R.2 w (.returned (.int .i64 4)) w) := bl.hid (by rw [HRe.out, if_neg (by simp [h4]), if_pos (.inr (by omega))]; exact ⟨rfl, HM.out, But2.refl _ _ _⟩)
    have hn2 : (P.n : Int) ≤ k := by omega
    clear hb HRe
    go_enter Tryz.func10, Tryz.ntmps10
    go_wp2_with fail
    refine HNn.out.mono ?_
    rintro e w1 ⟨rfl, rfl⟩
    go_wp2
    go_ret
    exact HE.out
  have hkn : k < P.n := by omega
  have hkn2 : (k : Int) < P.n := by omega
  clear hk9
  rw [if_neg (by simp [h4]), if_neg (by omega)] at HRe
  obtain ⟨cb, hca, rest, hrow⟩ : ∃ b, P.ca = some ⟨b, 0, none⟩ ∧ ∃ rest, w.heap[b]? = some (.cells (st.tflat code P.n ++ rest).toArray 73 (0, 0)) := by
    rcases HM.out.told with h | h
    · omega
    · exact h
  have hto := HM.out.ins k hkn
  have hcell : ∀ j u, (code k).cells[j]? = some u → w.cell? ⟨cb, k * 6 + j, none⟩ = some u := by
    intro j u hu
    have hj : j < 6 := by
      have := (List.getElem?_eq_some_iff.1 hu).1
      simpa [st.Told.cells] using this
    rw [cell_of_row _ _ _ _ _ _ hrow, List.getElem?_toArray, List.getElem?_append_left (by rw [st.tflat_len]; omega), st.tflat_at code _ k j hkn hj]
    exact hu
  obtain ⟨t, ht⟩ : ∃ t, code k = t := ⟨_, rfl⟩
  rw [ht] at hto hcell HRe
  obtain ⟨⟨op, rd, rs1, rs2, im⟩, te⟩ := t
  have g0 : w.cell? ⟨cb, k * 6, none⟩ = some (.int .i64 op) := hcell 0 _ rfl
  have g1 := hcell 1 _ rfl
  have g2 := hcell 2 _ rfl
  have g3 := hcell 3 _ rfl
  have g4 := hcell 4 _ rfl
  have g5 := hcell 5 _ rfl
  dsimp only at g0 g1 g2 g3 g4 g5 HRe
  rw [hca] at c34
  have hcb : cb < w.heap.size := block_lt_of_cell g0
  have HTo := bl.hid hto
  clear hb hrow hcell hto ht hn hca
  by_cases he : te = 0
  rotate_left
  · have HE : Hid (TurnPost P code (.int .i64 R.1) R.2 w (.returned (.int .i64 2)) (w.alloc (.cells #[.int .i64 op, .int .i64 rd, .int .i64 rs1, .int .i64 rs2, .int .i64 im, .int .i64 te] 73))) := bl.hid (by rw [HRe.out, if_pos he]; exact ⟨rfl, HM.out.keep (kt.below_row _), But2.of_below (kt.below_row _)⟩)
    have he' : (te == 0) = false := by simpa using he
    clear he HRe HTo hw3
    go_enter Tryz.func10, Tryz.ntmps10
    go_wp2_with fail
    refine HNn.out.mono ?_
    rintro e w1 ⟨rfl, rfl⟩
    go_wp2
    go_ret
    exact HE.out
  subst he
  have hio : st.InOk ⟨op, rd, rs1, rs2, im⟩ := st.ToldOk.ins HTo.out rfl
  obtain ⟨F, hF, hFs, hX⟩ := exec_any P code _ hio
  have HFs := bl.hid hFs
  obtain ⟨R2, hR2⟩ : ∃ R2, st.exec ⟨op, rd, rs1, rs2, im⟩ s = R2 := ⟨_, rfl⟩
  rw [if_neg (by simp), hR2] at HRe
  obtain rfl := HRe.out
  have hX1 := fun w h => hX w s h
  rw [hR2] at hX1
  obtain ⟨W1, hW1⟩ : ∃ W1, w.alloc (.cells #[.int .i64 op, .int .i64 rd, .int .i64 rs1, .int .i64 rs2, .int .i64 im, .int .i64 0] 73) = W1 := ⟨_, rfl⟩
  have hbW : Below w.heap.size w W1 := by rw [← hW1]; exact kt.below_row _
  have hsW : W1.heap.size = w.heap.size + 1 := by rw [← hW1]; exact World.size_alloc _ _
  have hrW : W1.heap[w.heap.size]? = some (.cells #[.int .i64 op, .int .i64 rd, .int .i64 rs1, .int .i64 rs2, .int .i64 im, .int .i64 0] 73 (0, 0)) := by rw [← hW1]; exact heap_alloc_new _ _
  have HMW : Hid (IsMach W1 P code s) := bl.hid (HM.out.keep hbW)
  have hS : ∀ w1 : World, (w1.heap[w.heap.size]? = W1.heap[w.heap.size]?) → w1.cell? ⟨w.heap.size, 0, none⟩ = some (.int .i64 op) ∧ w1.cell? ⟨w.heap.size, 1, none⟩ = some (.int .i64 rd) ∧ w1.cell? ⟨w.heap.size, 2, none⟩ = some (.int .i64 rs1) ∧ w1.cell? ⟨w.heap.size, 3, none⟩ = some (.int .i64 rs2) ∧ w1.cell? ⟨w.heap.size, 4, none⟩ = some (.int .i64 im) ∧ w1.cell? ⟨w.heap.size, 5, none⟩ = some (.int .i64 0) := by
    intro w1 h1
    have hr := h1.trans hrW
    exact ⟨(cell_of_row _ _ _ _ _ _ hr).trans rfl, (cell_of_row _ _ _ _ _ _ hr).trans rfl, (cell_of_row _ _ _ _ _ _ hr).trans rfl, (cell_of_row _ _ _ _ _ _ hr).trans rfl, (cell_of_row _ _ _ _ _ _ hr).trans rfl, (cell_of_row _ _ _ _ _ _ hr).trans rfl⟩
  have HX : Hid (Calls Tryz.prog F #[.pointer (some ⟨P.p, 0, none⟩), .agg #[.int .i64 op, .int .i64 rd, .int .i64 rs1, .int .i64 rs2, .int .i64 im]] W1.drew fun e w2 => e = .returned (.int .i64 R.1) ∧ IsMach w2 P code R.2 ∧ But2 P.p P.g w w2 ∧ w2.cell? ⟨P.p, 35, none⟩ = some (.map (some P.db)) ∧ (w2.cell? ⟨w.heap.size, 0, none⟩ = some (.int .i64 op) ∧ w2.cell? ⟨w.heap.size, 1, none⟩ = some (.int .i64 rd) ∧ w2.cell? ⟨w.heap.size, 2, none⟩ = some (.int .i64 rs1) ∧ w2.cell? ⟨w.heap.size, 3, none⟩ = some (.int .i64 rs2) ∧ w2.cell? ⟨w.heap.size, 4, none⟩ = some (.int .i64 im))) := bl.hid ((hX1 W1.drew (HMW.out.heapEq (w' := W1.drew) rfl)).mono (fun e w2 q => by
    obtain ⟨q1, q2, q3⟩ := q
    have hg := HM.out.mem.lt.2
    have hb3 : w2.heap[w.heap.size]? = W1.heap[w.heap.size]? := q3.block _ (by omega) (by omega) (by show _ < W1.heap.size; omega)
    obtain ⟨a0, a1, a2, a3, a4, a5⟩ := hS w2 hb3
    exact ⟨q1, q2, (But2.of_below (hbW.drew)).trans q3, q2.doesC, a0, a1, a2, a3, a4⟩))
  obtain ⟨z0, z1, z2, z3, z4, z5⟩ := hS W1 rfl
  have z35 := HMW.out.doesC
  have hlk := DeedsPost.look (w' := w) HMW.out.deeds op W1.drew (WalkArith.wf_i64 (by have := hio.op; dsimp only at this; omega)) rfl
  have hF' : st.deed op = .func (.func F) #[] #[] := hF
  rw [hF'] at hlk
  have HW1 := bl.hid hW1
  clear hX hX1 hS hrW hbW hio hF hF' HRe hR2 hW1 hFs
  go_enter Tryz.func10, Tryz.ntmps10
  go_wp2_with fail
  refine HNn.out.mono ?_
  rintro e w1 ⟨rfl, rfl⟩
  go_upto_region 11 with (fail)
  rw [HW1.out]
  have HX2 := HX.out
  clear HX HW1
  rcases HFs.out with rfl | rfl | rfl | rfl | rfl | rfl | rfl
  all_goals
    have HX := bl.hid HX2
    clear HX2
    go_region_held3 (fun w' => w'.cell? ⟨P.p, 35, none⟩ = some (.map (some P.db)) ∧ w'.cell? ⟨w1.heap.size, 0, none⟩ = some (.int .i64 op) ∧ w'.cell? ⟨w1.heap.size, 1, none⟩ = some (.int .i64 rd) ∧ w'.cell? ⟨w1.heap.size, 2, none⟩ = some (.int .i64 rs1) ∧ w'.cell? ⟨w1.heap.size, 3, none⟩ = some (.int .i64 rs2) ∧ w'.cell? ⟨w1.heap.size, 4, none⟩ = some (.int .i64 im)) ((first | with_reducible assumption | go_keep))
      ((first
        | (with_reducible refine HX.out.mono ?_; rintro e w2 ⟨rfl, m1, m2, y35, y0, y1, y2, y3, y4⟩; have M1 := bl.hid m1; have M2 := bl.hid m2; clear m1 m2)))
    go_wp2
    go_ret
    exact ⟨rfl, M1.out, M2.out⟩
end Go.Proofs.YtjjkocklpcdbkaaGreat
