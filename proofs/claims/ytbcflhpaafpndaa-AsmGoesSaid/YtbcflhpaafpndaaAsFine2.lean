/- fine: may a line be, by itself. -/
import Derived.Test.YtbcflhpaafpndaaAsFine
namespace Go.Proofs.Ytbcflhpaafpndaa
open Go.RowKit
set_option linter.unusedVariables false
theorem below_call {w a b : World} (h : Below w.heap.size w a) (hb : Below a.heap.size a b) : Below w.heap.size w b := h.trans (hb.mono h.size)
set_option maxRecDepth 100000 in
set_option maxHeartbeats 1600000 in
theorem fine_any (x : kt.Ln) (w : World) : Calls Try.prog 31 #[.agg x.cells] w fun e w' => e = .returned (.bool (al.fine x)) ∧ Below w.heap.size w w' := by
  obtain ⟨kd, lb, op, rd, rs1, rs2, im⟩ := x
  have HLb := bl.hid (fun w => labelled_any ⟨kd, lb, op, rd, rs1, rs2, im⟩ w)
  have HCk := bl.hid (fun w => check_any op rd rs1 rs2 im w)
  have HFo := bl.hid (fun w => form_any op w)
  obtain ⟨R, hR⟩ : ∃ R, al.fine ⟨kd, lb, op, rd, rs1, rs2, im⟩ = R := ⟨_, rfl⟩
  rw [hR]
  unfold al.fine al.chk at hR
  dsimp only at hR
  obtain ⟨q, hq⟩ : ∃ q, rv.chkI op rd rs1 rs2 im = q := ⟨_, rfl⟩
  obtain ⟨p, hp⟩ : ∃ p, al.labelled ⟨kd, lb, op, rd, rs1, rs2, im⟩ = p := ⟨_, rfl⟩
  rw [hq] at HCk hR
  rw [hp] at HLb hR
  unfold kt.Ln.cells at HLb ⊢
  dsimp only at HLb ⊢
  clear hq hp
  have hkind : kd = 0 ∨ kd = 1 ∨ kd = 2 ∨ (kd ≠ 0 ∧ kd ≠ 1 ∧ kd ≠ 2) := by omega
  rcases hkind with rfl | rfl | rfl | ⟨h0, h1, h2⟩
  · rw [if_pos rfl] at hR
    by_cases hl : lb = 0
    · subst hl
      have hR2 : R = (q == 0) := by
        rw [← hR]
        by_cases h : q = 0 <;> simp [h]
      subst hR2
      clear hR
      go_enter Try.func31, Try.ntmps31
      go_wp2_with fail
      refine (HCk.out _).mono ?_
      rintro e w1 ⟨rfl, hb⟩
      have HB := bl.hid (below_call (kt.below_row _) hb)
      clear hb
      go_wp2
      go_ret
      exact ⟨rfl, HB.out⟩
    · have hR2 : R = false := by rw [← hR, decide_eq_false hl]; rfl
      subst hR2
      have hl2 : (lb == 0) = false := by simpa using hl
      clear hR hl
      go_enter Try.func31, Try.ntmps31
      go_wp2
      go_ret
      exact ⟨rfl, kt.below_row _⟩
  · rw [if_neg (by decide), if_pos rfl] at hR
    have HR := bl.hid hR
    clear hR
    go_enter Try.func31, Try.ntmps31
    go_wp2_with fail
    refine (HLb.out _).mono ?_
    rintro e w1 ⟨rfl, hb⟩
    obtain ⟨rb, hb1, hs1⟩ := one_box' hb
    have c2 : w1.cell? ⟨w.heap.size, 2, none⟩ = some (.int .i64 op) := (cell_of_row _ _ _ _ _ _ rb).trans rfl
    have c3 : w1.cell? ⟨w.heap.size, 3, none⟩ = some (.int .i64 rd) := (cell_of_row _ _ _ _ _ _ rb).trans rfl
    have c4 : w1.cell? ⟨w.heap.size, 4, none⟩ = some (.int .i64 rs1) := (cell_of_row _ _ _ _ _ _ rb).trans rfl
    have c5 : w1.cell? ⟨w.heap.size, 5, none⟩ = some (.int .i64 rs2) := (cell_of_row _ _ _ _ _ _ rb).trans rfl
    have c6 : w1.cell? ⟨w.heap.size, 6, none⟩ = some (.int .i64 im) := (cell_of_row _ _ _ _ _ _ rb).trans rfl
    have HB := bl.hid hb1
    clear rb hb hb1
    cases p
    · have HR2 : Hid (R = false) := bl.hid (by rw [← HR.out]; rfl)
      go_wp2
      go_ret
      exact ⟨by rw [HR2.out]; rfl, HB.out⟩
    · by_cases hz : op = 0 ∧ rd = 0 ∧ rs1 = 0 ∧ rs2 = 0 ∧ im = 0
      · have HR2 : Hid (R = true) := bl.hid (by rw [← HR.out]; unfold al.zeroX; rw [decide_eq_true hz]; rfl)
        obtain ⟨rfl, rfl, rfl, rfl, rfl⟩ := hz
        go_wp2
        go_ret
        exact ⟨by rw [HR2.out]; rfl, HB.out⟩
      · have HR2 : Hid (R = false) := bl.hid (by rw [← HR.out]; unfold al.zeroX; rw [decide_eq_false hz]; rfl)
        have HZ := bl.hid hz
        clear hz
        go_wp2
        all_goals first | (exact absurd ⟨‹_›, ‹_›, ‹_›, ‹_›, ‹_›⟩ HZ.out) | skip
        all_goals
          go_ret
          exact ⟨by rw [HR2.out]; rfl, HB.out⟩
  · rw [if_neg (by decide), if_neg (by decide), if_pos rfl] at hR
    have HR := bl.hid hR
    clear hR
    obtain ⟨fm, hfm⟩ : ∃ fm, (rv.rowI op).form = fm := ⟨_, rfl⟩
    have hfB := form_B op
    have hfJ := al.form_J op
    rw [hfm] at HFo hfB hfJ
    have HFB := bl.hid hfB
    have HFJ := bl.hid hfJ
    clear hfm hfB hfJ
    go_enter Try.func31, Try.ntmps31
    go_wp2_with fail
    refine (HFo.out _).mono ?_
    rintro e w1 ⟨rfl, hb⟩
    obtain ⟨rb, hb1, hs1⟩ := one_box' hb
    have HRB := bl.hid rb
    have HB := bl.hid hb1
    have c0 : w1.cell? ⟨w.heap.size, 0, none⟩ = some (.int .i64 2) := (cell_of_row _ _ _ _ _ _ rb).trans rfl
    have c1 : w1.cell? ⟨w.heap.size, 1, none⟩ = some (.int .i64 lb) := (cell_of_row _ _ _ _ _ _ rb).trans rfl
    have c2 : w1.cell? ⟨w.heap.size, 2, none⟩ = some (.int .i64 op) := (cell_of_row _ _ _ _ _ _ rb).trans rfl
    have c3 : w1.cell? ⟨w.heap.size, 3, none⟩ = some (.int .i64 rd) := (cell_of_row _ _ _ _ _ _ rb).trans rfl
    have c4 : w1.cell? ⟨w.heap.size, 4, none⟩ = some (.int .i64 rs1) := (cell_of_row _ _ _ _ _ _ rb).trans rfl
    have c5 : w1.cell? ⟨w.heap.size, 5, none⟩ = some (.int .i64 rs2) := (cell_of_row _ _ _ _ _ _ rb).trans rfl
    have c6 : w1.cell? ⟨w.heap.size, 6, none⟩ = some (.int .i64 im) := (cell_of_row _ _ _ _ _ _ rb).trans rfl
    clear rb hb hb1
    go_wp2_with fail
    refine (HLb.out _).mono ?_
    rintro e w2 ⟨rfl, hb⟩
    have rb := (hb.block w.heap.size (by omega)).trans HRB.out
    have HB2 := bl.hid (below_call HB.out hb)
    have hs2 := hb.size
    clear c0 c1 c2 c3 c4 c5 c6 hb
    have c2 : w2.cell? ⟨w.heap.size, 2, none⟩ = some (.int .i64 op) := (cell_of_row _ _ _ _ _ _ rb).trans rfl
    have c3 : w2.cell? ⟨w.heap.size, 3, none⟩ = some (.int .i64 rd) := (cell_of_row _ _ _ _ _ _ rb).trans rfl
    have c4 : w2.cell? ⟨w.heap.size, 4, none⟩ = some (.int .i64 rs1) := (cell_of_row _ _ _ _ _ _ rb).trans rfl
    have c5 : w2.cell? ⟨w.heap.size, 5, none⟩ = some (.int .i64 rs2) := (cell_of_row _ _ _ _ _ _ rb).trans rfl
    have c6 : w2.cell? ⟨w.heap.size, 6, none⟩ = some (.int .i64 im) := (cell_of_row _ _ _ _ _ _ rb).trans rfl
    clear rb
    cases p
    · have HR2 : Hid (R = false) := bl.hid (by rw [← HR.out]; simp)
      go_wp2
      go_ret
      exact ⟨by rw [HR2.out]; rfl, HB2.out⟩
    have hgo : (al.goesOp op = true ∧ (fm = ⟨#[66]⟩ ∨ fm = ⟨#[74]⟩)) ∨ (al.goesOp op = false ∧ (fm.toList == [66]) = false ∧ (fm.toList == [74]) = false) := by
      unfold al.goesOp
      by_cases hB : al.isB op = true
      · exact .inl ⟨by rw [hB]; rfl, .inl (HFB.out.1 hB)⟩
      · have hB : al.isB op = false := by simpa using hB
        by_cases hJ : op = 3
        · exact .inl ⟨by rw [hB, decide_eq_true hJ]; rfl, .inr (HFJ.out.1 hJ)⟩
        · exact .inr ⟨by rw [hB, decide_eq_false hJ]; rfl, HFB.out.2 hB, HFJ.out.2 hJ⟩
    rcases hgo with ⟨hg, hf⟩ | ⟨hg, hf1, hf2⟩
    · have HG := bl.hid hg
      clear hg
      by_cases him : im = 0
      · subst him
        have HR2 : Hid (R = (q == 0)) := bl.hid (by rw [← HR.out, HG.out]; by_cases h : q = 0 <;> simp [h])
        rcases hf with rfl | rfl
        all_goals
          go_wp2_with fail
          refine (HCk.out _).mono ?_
          rintro e w3 ⟨rfl, hb⟩
          have HB3 := bl.hid (below_call HB2.out hb)
          clear hb
          go_wp2
          go_ret
          exact ⟨by rw [HR2.out]; rfl, HB3.out⟩
      · have HR2 : Hid (R = false) := bl.hid (by rw [← HR.out, HG.out, decide_eq_false him]; simp)
        have him2 : (im == 0) = false := by simpa using him
        clear him
        rcases hf with rfl | rfl
        all_goals
          go_wp2
          go_ret
          exact ⟨by rw [HR2.out]; rfl, HB2.out⟩
    · have HR2 : Hid (R = false) := bl.hid (by rw [← HR.out, hg]; simp)
      clear hg
      go_wp2
      go_ret
      exact ⟨by rw [HR2.out]; rfl, HB2.out⟩
  · have hR2 : R = false := by rw [← hR, if_neg h0, if_neg h1, if_neg h2]
    subst hR2
    have q0 : (kd == 0) = false := by simpa using h0
    have q1 : (kd == 1) = false := by simpa using h1
    have q2 : (kd == 2) = false := by simpa using h2
    clear hR h0 h1 h2
    go_enter Try.func31, Try.ntmps31
    go_wp2
    go_ret
    exact ⟨rfl, kt.below_row _⟩
end Go.Proofs.Ytbcflhpaafpndaa
