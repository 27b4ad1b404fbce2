/- The reference's Check and Encode, at any instruction. -/
import Derived.Test.YtjjkocklpcdbkaaGreatRfCheck
import Derived.Deep.QuietTactic
import Derived.BigQuiet
namespace Go.Proofs.YtjjkocklpcdbkaaGreat
open Go.RowKit
set_option linter.unusedVariables false
set_option maxRecDepth 100000
set_option linter.unusedSimpArgs false
theorem kt.quiet {P : Program} {f : FuncId} {args : Array Value} {w : World} {Q : Ending → World → Prop} (h : True) : True := h
namespace rf
theorem bool_eq {a b : Bool} (h : a = true ↔ b = true) : a = b := by cases a <;> cases b <;> simp_all
theorem chk_R (rd rs1 rs2 im : Int) : chk true true true 82 rd rs1 rs2 im = rv.chkR rv.shR rd rs1 rs2 im := by
  unfold chk rv.chkR
  have e : (reg rd true && reg rs1 true && reg rs2 true && immOk 82 im) = rv.chkS rv.shR rd rs1 rs2 im := by
    refine bool_eq ?_
    rw [rv.chk_R]
    simp only [reg, immOk, Bool.and_eq_true, decide_eq_true_eq, if_true, Bool.false_eq_true, if_false, rv.tm2]
    omega
  rw [e]
theorem chk_I (rd rs1 rs2 im : Int) : chk true true false 73 rd rs1 rs2 im = rv.chkR rv.shI rd rs1 rs2 im := by
  unfold chk rv.chkR
  have e : (reg rd true && reg rs1 true && reg rs2 false && immOk 73 im) = rv.chkS rv.shI rd rs1 rs2 im := by
    refine bool_eq ?_
    rw [rv.chk_I]
    simp only [reg, immOk, Bool.and_eq_true, decide_eq_true_eq, if_true, Bool.false_eq_true, if_false, rv.tm2]
    omega
  rw [e]
theorem chk_X (rd rs1 rs2 im : Int) : chk true true false 88 rd rs1 rs2 im = rv.chkR rv.shX rd rs1 rs2 im := by
  unfold chk rv.chkR
  have e : (reg rd true && reg rs1 true && reg rs2 false && immOk 88 im) = rv.chkS rv.shX rd rs1 rs2 im := by
    refine bool_eq ?_
    rw [rv.chk_X]
    simp only [reg, immOk, Bool.and_eq_true, decide_eq_true_eq, if_true, Bool.false_eq_true, if_false, rv.tm2]
    omega
  rw [e]
theorem chk_Y (rd rs1 rs2 im : Int) : chk true true false 89 rd rs1 rs2 im = rv.chkR rv.shY rd rs1 rs2 im := by
  unfold chk rv.chkR
  have e : (reg rd true && reg rs1 true && reg rs2 false && immOk 89 im) = rv.chkS rv.shY rd rs1 rs2 im := by
    refine bool_eq ?_
    rw [rv.chk_Y]
    simp only [reg, immOk, Bool.and_eq_true, decide_eq_true_eq, if_true, Bool.false_eq_true, if_false, rv.tm2]
    omega
  rw [e]
theorem chk_S (rd rs1 rs2 im : Int) : chk false true true 83 rd rs1 rs2 im = rv.chkR rv.shS rd rs1 rs2 im := by
  unfold chk rv.chkR
  have e : (reg rd false && reg rs1 true && reg rs2 true && immOk 83 im) = rv.chkS rv.shS rd rs1 rs2 im := by
    refine bool_eq ?_
    rw [rv.chk_S]
    simp only [reg, immOk, Bool.and_eq_true, decide_eq_true_eq, if_true, Bool.false_eq_true, if_false, rv.tm2]
    omega
  rw [e]
theorem chk_B (rd rs1 rs2 im : Int) : chk false true true 66 rd rs1 rs2 im = rv.chkR rv.shB rd rs1 rs2 im := by
  unfold chk rv.chkR
  have e : (reg rd false && reg rs1 true && reg rs2 true && immOk 66 im) = rv.chkS rv.shB rd rs1 rs2 im := by
    refine bool_eq ?_
    rw [rv.chk_B]
    simp only [reg, immOk, Bool.and_eq_true, decide_eq_true_eq, if_true, Bool.false_eq_true, if_false, rv.tm2]
    omega
  rw [e]
theorem chk_U (rd rs1 rs2 im : Int) : chk true false false 85 rd rs1 rs2 im = rv.chkR rv.shU rd rs1 rs2 im := by
  unfold chk rv.chkR
  have e : (reg rd true && reg rs1 false && reg rs2 false && immOk 85 im) = rv.chkS rv.shU rd rs1 rs2 im := by
    refine bool_eq ?_
    rw [rv.chk_U]
    simp only [reg, immOk, Bool.and_eq_true, decide_eq_true_eq, if_true, Bool.false_eq_true, if_false, rv.tm2]
    omega
  rw [e]
theorem chk_J (rd rs1 rs2 im : Int) : chk true false false 74 rd rs1 rs2 im = rv.chkR rv.shJ rd rs1 rs2 im := by
  unfold chk rv.chkR
  have e : (reg rd true && reg rs1 false && reg rs2 false && immOk 74 im) = rv.chkS rv.shJ rd rs1 rs2 im := by
    refine bool_eq ?_
    rw [rv.chk_J]
    simp only [reg, immOk, Bool.and_eq_true, decide_eq_true_eq, if_true, Bool.false_eq_true, if_false, rv.tm2]
    omega
  rw [e]
theorem chk_E (rd rs1 rs2 im : Int) : chk false false false 69 rd rs1 rs2 im = rv.chkR rv.shE rd rs1 rs2 im := by
  unfold chk rv.chkR
  have e : (reg rd false && reg rs1 false && reg rs2 false && immOk 69 im) = rv.chkS rv.shE rd rs1 rs2 im := by
    refine bool_eq ?_
    rw [rv.chk_E]
    simp only [reg, immOk, Bool.and_eq_true, decide_eq_true_eq, if_true, Bool.false_eq_true, if_false, rv.tm2]
    omega
  rw [e]
theorem immW_I (im : Int) : immW 73 im = im % 4096 * 1048576 := by
  simp only [immW, bits]
  have q0 : (2 : Int) ^ Int.toNat 0 = 1 := by decide
  have q12 : (2 : Int) ^ Int.toNat 12 = 4096 := by decide
  have q20 : (2 : Int) ^ Int.toNat 20 = 1048576 := by decide
  simp only [q0, q12, q20]
  have e0 : im % 18446744073709551616 / 1 % 4096 * 1048576 % 18446744073709551616 % 4294967296 = im % 4096 * 1048576 := by omega
  have b0 : 0 ≤ im % 4096 * 1048576 ∧ im % 4096 * 1048576 ≤ 4293918720 := by omega
  rw [e0]
theorem immW_X (im : Int) : immW 88 im = im % 64 * 1048576 := by
  simp only [immW, bits]
  have q0 : (2 : Int) ^ Int.toNat 0 = 1 := by decide
  have q6 : (2 : Int) ^ Int.toNat 6 = 64 := by decide
  have q20 : (2 : Int) ^ Int.toNat 20 = 1048576 := by decide
  simp only [q0, q6, q20]
  have e0 : im % 18446744073709551616 / 1 % 64 * 1048576 % 18446744073709551616 % 4294967296 = im % 64 * 1048576 := by omega
  have b0 : 0 ≤ im % 64 * 1048576 ∧ im % 64 * 1048576 ≤ 66060288 := by omega
  rw [e0]
theorem immW_Y (im : Int) : immW 89 im = im % 32 * 1048576 := by
  simp only [immW, bits]
  have q0 : (2 : Int) ^ Int.toNat 0 = 1 := by decide
  have q5 : (2 : Int) ^ Int.toNat 5 = 32 := by decide
  have q20 : (2 : Int) ^ Int.toNat 20 = 1048576 := by decide
  simp only [q0, q5, q20]
  have e0 : im % 18446744073709551616 / 1 % 32 * 1048576 % 18446744073709551616 % 4294967296 = im % 32 * 1048576 := by omega
  have b0 : 0 ≤ im % 32 * 1048576 ∧ im % 32 * 1048576 ≤ 32505856 := by omega
  rw [e0]
theorem immW_S (im : Int) : immW 83 im = im % 32 * 128 + im / 32 % 128 * 33554432 := by
  simp only [immW, bits]
  have q0 : (2 : Int) ^ Int.toNat 0 = 1 := by decide
  have q5 : (2 : Int) ^ Int.toNat 5 = 32 := by decide
  have q7 : (2 : Int) ^ Int.toNat 7 = 128 := by decide
  have q25 : (2 : Int) ^ Int.toNat 25 = 33554432 := by decide
  simp only [q0, q5, q7, q25]
  have e0 : im % 18446744073709551616 / 1 % 32 * 128 % 18446744073709551616 % 4294967296 = im % 32 * 128 := by omega
  have b0 : 0 ≤ im % 32 * 128 ∧ im % 32 * 128 ≤ 3968 := by omega
  have e1 : im % 18446744073709551616 / 32 % 128 * 33554432 % 18446744073709551616 % 4294967296 = im / 32 % 128 * 33554432 := by omega
  have b1 : 0 ≤ im / 32 % 128 * 33554432 ∧ im / 32 % 128 * 33554432 ≤ 4261412864 := by omega
  rw [e0, e1]
  clear e0
  generalize im % 32 * 128 = z0 at *
  clear e1
  generalize im / 32 % 128 * 33554432 = z1 at *
  omega
theorem immW_B (im : Int) : immW 66 im = im / 2048 % 2 * 128 + im / 2 % 16 * 256 + im / 32 % 64 * 33554432 + im / 4096 % 2 * 2147483648 := by
  simp only [immW, bits]
  have q1 : (2 : Int) ^ Int.toNat 1 = 2 := by decide
  have q4 : (2 : Int) ^ Int.toNat 4 = 16 := by decide
  have q5 : (2 : Int) ^ Int.toNat 5 = 32 := by decide
  have q6 : (2 : Int) ^ Int.toNat 6 = 64 := by decide
  have q7 : (2 : Int) ^ Int.toNat 7 = 128 := by decide
  have q8 : (2 : Int) ^ Int.toNat 8 = 256 := by decide
  have q11 : (2 : Int) ^ Int.toNat 11 = 2048 := by decide
  have q12 : (2 : Int) ^ Int.toNat 12 = 4096 := by decide
  have q25 : (2 : Int) ^ Int.toNat 25 = 33554432 := by decide
  have q31 : (2 : Int) ^ Int.toNat 31 = 2147483648 := by decide
  simp only [q1, q4, q5, q6, q7, q8, q11, q12, q25, q31]
  have e0 : im % 18446744073709551616 / 2048 % 2 * 128 % 18446744073709551616 % 4294967296 = im / 2048 % 2 * 128 := by omega
  have b0 : 0 ≤ im / 2048 % 2 * 128 ∧ im / 2048 % 2 * 128 ≤ 128 := by omega
  have e1 : im % 18446744073709551616 / 2 % 16 * 256 % 18446744073709551616 % 4294967296 = im / 2 % 16 * 256 := by omega
  have b1 : 0 ≤ im / 2 % 16 * 256 ∧ im / 2 % 16 * 256 ≤ 3840 := by omega
  have e2 : im % 18446744073709551616 / 32 % 64 * 33554432 % 18446744073709551616 % 4294967296 = im / 32 % 64 * 33554432 := by omega
  have b2 : 0 ≤ im / 32 % 64 * 33554432 ∧ im / 32 % 64 * 33554432 ≤ 2113929216 := by omega
  have e3 : im % 18446744073709551616 / 4096 % 2 * 2147483648 % 18446744073709551616 % 4294967296 = im / 4096 % 2 * 2147483648 := by omega
  have b3 : 0 ≤ im / 4096 % 2 * 2147483648 ∧ im / 4096 % 2 * 2147483648 ≤ 2147483648 := by omega
  rw [e0, e1, e2, e3]
  clear e0
  generalize im / 2048 % 2 * 128 = z0 at *
  clear e1
  generalize im / 2 % 16 * 256 = z1 at *
  clear e2
  generalize im / 32 % 64 * 33554432 = z2 at *
  clear e3
  generalize im / 4096 % 2 * 2147483648 = z3 at *
  omega
theorem immW_U (im : Int) : immW 85 im = im % 1048576 * 4096 := by
  simp only [immW, bits]
  have q0 : (2 : Int) ^ Int.toNat 0 = 1 := by decide
  have q12 : (2 : Int) ^ Int.toNat 12 = 4096 := by decide
  have q20 : (2 : Int) ^ Int.toNat 20 = 1048576 := by decide
  simp only [q0, q12, q20]
  have e0 : im % 18446744073709551616 / 1 % 1048576 * 4096 % 18446744073709551616 % 4294967296 = im % 1048576 * 4096 := by omega
  have b0 : 0 ≤ im % 1048576 * 4096 ∧ im % 1048576 * 4096 ≤ 4294963200 := by omega
  rw [e0]
theorem immW_J (im : Int) : immW 74 im = im / 4096 % 256 * 4096 + im / 2048 % 2 * 1048576 + im / 2 % 1024 * 2097152 + im / 1048576 % 2 * 2147483648 := by
  simp only [immW, bits]
  have q1 : (2 : Int) ^ Int.toNat 1 = 2 := by decide
  have q8 : (2 : Int) ^ Int.toNat 8 = 256 := by decide
  have q10 : (2 : Int) ^ Int.toNat 10 = 1024 := by decide
  have q11 : (2 : Int) ^ Int.toNat 11 = 2048 := by decide
  have q12 : (2 : Int) ^ Int.toNat 12 = 4096 := by decide
  have q20 : (2 : Int) ^ Int.toNat 20 = 1048576 := by decide
  have q21 : (2 : Int) ^ Int.toNat 21 = 2097152 := by decide
  have q31 : (2 : Int) ^ Int.toNat 31 = 2147483648 := by decide
  simp only [q1, q8, q10, q11, q12, q20, q21, q31]
  have e0 : im % 18446744073709551616 / 4096 % 256 * 4096 % 18446744073709551616 % 4294967296 = im / 4096 % 256 * 4096 := by omega
  have b0 : 0 ≤ im / 4096 % 256 * 4096 ∧ im / 4096 % 256 * 4096 ≤ 1044480 := by omega
  have e1 : im % 18446744073709551616 / 2048 % 2 * 1048576 % 18446744073709551616 % 4294967296 = im / 2048 % 2 * 1048576 := by omega
  have b1 : 0 ≤ im / 2048 % 2 * 1048576 ∧ im / 2048 % 2 * 1048576 ≤ 1048576 := by omega
  have e2 : im % 18446744073709551616 / 2 % 1024 * 2097152 % 18446744073709551616 % 4294967296 = im / 2 % 1024 * 2097152 := by omega
  have b2 : 0 ≤ im / 2 % 1024 * 2097152 ∧ im / 2 % 1024 * 2097152 ≤ 2145386496 := by omega
  have e3 : im % 18446744073709551616 / 1048576 % 2 * 2147483648 % 18446744073709551616 % 4294967296 = im / 1048576 % 2 * 2147483648 := by omega
  have b3 : 0 ≤ im / 1048576 % 2 * 2147483648 ∧ im / 1048576 % 2 * 2147483648 ≤ 2147483648 := by omega
  rw [e0, e1, e2, e3]
  clear e0
  generalize im / 4096 % 256 * 4096 = z0 at *
  clear e1
  generalize im / 2048 % 2 * 1048576 = z1 at *
  clear e2
  generalize im / 2 % 1024 * 2097152 = z2 at *
  clear e3
  generalize im / 1048576 % 2 * 2147483648 = z3 at *
  omega
end rf
theorem rcheck_any (op rd rs1 rs2 im : Int) (w : World) :
    Calls Tryz.prog 98 #[.agg #[.int .i64 op, .int .i64 rd, .int .i64 rs1, .int .i64 rs2, .int .i64 im]] w fun e w' => e = .returned (.int .i64 (rv.chkI op rd rs1 rs2 im)) ∧ Below w.heap.size w w' := by
  by_cases h : rv.is op = true
  · obtain ⟨k, rfl⟩ : ∃ k : Nat, op = k := ⟨op.toNat, by have := of_decide_eq_true h; omega⟩
    obtain ⟨h1, h2⟩ : 1 ≤ (k : Int) ∧ (k : Int) < 64 := of_decide_eq_true h
    have HA := fun w => rrow_ok k w (by omega) (by omega)
    unfold rv.cells at HA
    have e : rv.chkI k rd rs1 rs2 im = rv.chkR (rv.sh k) rd rs1 rs2 im := by simp [rv.chkI, h]
    rw [e]
    unfold rv.sh
    rcases rv.form_cases k (by omega) (by omega) with hf | hf | hf | hf | hf | hf | hf | hf | hf <;> rw [hf] at HA ⊢
    · show Calls _ _ _ w fun e w' => e = .returned (.int .i64 (rv.chkR rv.shR rd rs1 rs2 im)) ∧ Below w.heap.size w w'
      rw [← rf.chk_R]
      exact rcheck_R _ _ _ _ _ _ _ _ _ w (bl.hid HA)
    · show Calls _ _ _ w fun e w' => e = .returned (.int .i64 (rv.chkR rv.shI rd rs1 rs2 im)) ∧ Below w.heap.size w w'
      rw [← rf.chk_I]
      exact rcheck_I _ _ _ _ _ _ _ _ _ w (bl.hid HA)
    · show Calls _ _ _ w fun e w' => e = .returned (.int .i64 (rv.chkR rv.shX rd rs1 rs2 im)) ∧ Below w.heap.size w w'
      rw [← rf.chk_X]
      exact rcheck_X _ _ _ _ _ _ _ _ _ w (bl.hid HA)
    · show Calls _ _ _ w fun e w' => e = .returned (.int .i64 (rv.chkR rv.shY rd rs1 rs2 im)) ∧ Below w.heap.size w w'
      rw [← rf.chk_Y]
      exact rcheck_Y _ _ _ _ _ _ _ _ _ w (bl.hid HA)
    · show Calls _ _ _ w fun e w' => e = .returned (.int .i64 (rv.chkR rv.shS rd rs1 rs2 im)) ∧ Below w.heap.size w w'
      rw [← rf.chk_S]
      exact rcheck_S _ _ _ _ _ _ _ _ _ w (bl.hid HA)
    · show Calls _ _ _ w fun e w' => e = .returned (.int .i64 (rv.chkR rv.shB rd rs1 rs2 im)) ∧ Below w.heap.size w w'
      rw [← rf.chk_B]
      exact rcheck_B _ _ _ _ _ _ _ _ _ w (bl.hid HA)
    · show Calls _ _ _ w fun e w' => e = .returned (.int .i64 (rv.chkR rv.shU rd rs1 rs2 im)) ∧ Below w.heap.size w w'
      rw [← rf.chk_U]
      exact rcheck_U _ _ _ _ _ _ _ _ _ w (bl.hid HA)
    · show Calls _ _ _ w fun e w' => e = .returned (.int .i64 (rv.chkR rv.shJ rd rs1 rs2 im)) ∧ Below w.heap.size w w'
      rw [← rf.chk_J]
      exact rcheck_J _ _ _ _ _ _ _ _ _ w (bl.hid HA)
    · show Calls _ _ _ w fun e w' => e = .returned (.int .i64 (rv.chkR rv.shE rd rs1 rs2 im)) ∧ Below w.heap.size w w'
      rw [← rf.chk_E]
      exact rcheck_E _ _ _ _ _ _ _ _ _ w (bl.hid HA)
  · have h : rv.is op = false := by simpa using h
    have HA := fun w => rrow_any op w
    rw [h] at HA
    have e : rv.chkI op rd rs1 rs2 im = 2 := by simp [rv.chkI, h]
    have er : rv.rowI op = rv.row 0 := by simp [rv.rowI, h]
    rw [e]
    rw [er] at HA
    unfold rv.cells at HA
    have H : Hid (∀ w, Calls Tryz.prog 59 #[.int .i64 op] w fun e w' => e = .returned (.tuple #[.agg #[.string ⟨#[]⟩, .string ⟨#[]⟩, .int .u32 0, .int .u32 0, .int .u32 0], .bool false]) ∧ Below w.heap.size w w') := bl.hid HA
    clear HA h e er
    go_enter Tryz.func98, Tryz.ntmps98
    go_wp2_with fail
    refine (H.out _).mono ?_
    rintro e w1 ⟨rfl, hb⟩
    obtain ⟨r0, hb1, hs1⟩ := one_box hb
    have HB1 := bl.hid hb1
    clear hb hb1 r0
    go_wp2
    go_ret
    exact ⟨rfl, HB1.out.alloc HB1.out.size _⟩
set_option maxRecDepth 100000 in
set_option maxHeartbeats 1600000 in
theorem rencode_R (k : Nat) (h1 : k < 64) (h2 : 1 ≤ k) (hf : (rv.row k).form = ⟨#[82]⟩) (rd rs1 rs2 im : Int) (hc : rv.chkS (rv.sh k) rd rs1 rs2 im = true) (w : World) :
    Calls Tryz.prog 75 #[.agg #[.int .i64 k, .int .i64 rd, .int .i64 rs1, .int .i64 rs2, .int .i64 im]] w fun e w' => e = .returned (.tuple #[.int .u32 (rv.wordK k rd rs1 rs2 im), .int .i64 0]) ∧ Below w.heap.size w w' := by
  have HC : Hid (∀ w, Calls Tryz.prog 98 #[.agg #[.int .i64 k, .int .i64 rd, .int .i64 rs1, .int .i64 rs2, .int .i64 im]] w fun e w' => e = .returned (.int .i64 0) ∧ Below w.heap.size w w') := bl.hid fun w => by
    have := rcheck_any k rd rs1 rs2 im w
    rwa [(rv.chkI_nat k h1 h2 rd rs1 rs2 im).mpr hc] at this
  have HA := fun w => rrow_ok k w h2 h1
  unfold rv.cells at HA
  rw [hf] at HA
  have hs : rv.sh k = rv.shR := by unfold rv.sh; rw [hf]; rfl
  have hl : rv.lt k = 82 := by unfold rv.lt; rw [hf]; rfl
  obtain ⟨⟨a0, a1⟩, ⟨b0, b1⟩, ⟨g0, g1⟩⟩ := rv.row_bd k h1 h2
  rw [hs] at hc
  have hcc := (rv.chk_R _ _ _ _).mp hc
  obtain ⟨hrd, hrs1, hrs2, him⟩ := hcc
  have hw : rv.wordK k rd rs1 rs2 im = _ := (show rv.wordK k rd rs1 rs2 im = VR (rv.row k).a (rv.row k).b (rv.row k).c rd rs1 rs2 im 3 by unfold rv.wordK; rw [hl]; rfl).trans (rv.VR_sum _ _ _ rd rs1 rs2 im ⟨a0, a1⟩ ⟨b0, b1⟩ ⟨g0, g1⟩ hrd hrs1 hrs2)
  rw [hw]
  clear hc hs hl hw hf
  obtain ⟨ra, ea⟩ : ∃ z, (rv.row k).a = z := ⟨_, rfl⟩
  obtain ⟨rb, eb⟩ : ∃ z, (rv.row k).b = z := ⟨_, rfl⟩
  obtain ⟨rc, ec⟩ : ∃ z, (rv.row k).c = z := ⟨_, rfl⟩
  obtain ⟨nm, en⟩ : ∃ z, (rv.row k).name = z := ⟨_, rfl⟩
  rw [ea, eb, ec, en] at HA
  rw [ea] at a0 a1
  rw [eb] at b0 b1
  rw [ec] at g0 g1
  try rw [ea]
  try rw [eb]
  try rw [ec]
  clear ea eb ec en
  have HRow := bl.hid HA
  clear HA
  have HI0 := fun w => rimm_R im w
  have hz : (0 : Int) = 0 := rfl
  obtain ⟨z, hz⟩ : ∃ z : Int, 0 = z := ⟨_, rfl⟩
  have HI0 : ∀ w, Calls Tryz.prog 99 #[.string ⟨#[82]⟩, .int .i64 im] w fun e w' => e = .returned (.int .u32 z) ∧ w = w' := fun w => by rw [← hz]; exact rimm_R im w
  have HZ := bl.hid hz
  have HI := bl.hid HI0
  have HY := bl.hid him
  clear hz HI0 him
  go_enter Tryz.func75, Tryz.ntmps75
  go_wp2_with fail
  refine (HC.out _).mono ?_
  rintro e w1 ⟨rfl, hb⟩
  obtain ⟨r0, hb1, hs1⟩ := one_box hb
  obtain ⟨c0, c1, c2, c3, c4⟩ := RvAt.of_box r0
  have HR0 := bl.hid r0
  have HB1 := bl.hid hb1
  clear hb r0 hb1
  go_wp2_with fail
  refine (HRow.out _).mono ?_
  rintro e w2 ⟨rfl, hb⟩
  have r1 := (hb.block _ (by omega)).trans HR0.out
  clear c0 c1 c2 c3 c4
  obtain ⟨c0, c1, c2, c3, c4⟩ := RvAt.of_box r1
  have k2 : w.heap.size < w2.heap.size := block_lt_of_cell c0
  have HB2 := bl.hid (kt.below_call HB1.out hb)
  have HB3 : Hid (∀ o n, Below w.heap.size w ((w2.alloc o).drewN n)) := bl.hid fun o n => (kt.below_more' HB2.out o).drewN' n
  clear r1 hb
  go_wp2
  go_quiet ((go_at_call 99; exact Calls.quiet_of_same ((HI.out _).mono (fun e w' h => ⟨h.1, h.2.symm⟩))))
  go_wp2
  refine kt.wp_forget (fun wf => wf.heap[w2.heap.size]? = some (.cells #[.string nm, .string ⟨#[82]⟩, .int .u32 ra, .int .u32 rb, .int .u32 rc] 107 (0, 0)) ∧ Below w.heap.size w wf) ⟨heap_alloc_new _ _, HB3.out _ _⟩ ?_
  rintro wf ⟨hrf, hbf⟩
  have d2 : wf.cell? ⟨w2.heap.size, 4, none⟩ = some (.int .u32 rc) := (cell_of_row _ _ _ _ _ _ hrf).trans rfl
  have d1 : wf.cell? ⟨w2.heap.size, 1, none⟩ = some (.string ⟨#[82]⟩) := (cell_of_row _ _ _ _ _ _ hrf).trans rfl
  have HBF : Hid (∀ n, Below w.heap.size w (wf.drewN n)) := bl.hid fun n => hbf.drewN' n
  clear hrf hbf c0 c1 c2 c3 c4 k2
  go_quiet ((go_at_call 100; exact Calls.quiet_of_same ((rabove_R _).mono (fun e w' h => ⟨h.1, h.2.symm⟩))))
  go_wp2
  go_ret2
  refine ⟨bl.ret2 (bl.int_eq ?_) rfl, HBF.out _⟩
  have hz := HZ.out
  have him := HY.out
  clear HZ HI HC HRow HY HR0 HB1 HB2 HB3 HBF
  omega
set_option maxRecDepth 100000 in
set_option maxHeartbeats 1600000 in
theorem rencode_I (k : Nat) (h1 : k < 64) (h2 : 1 ≤ k) (hf : (rv.row k).form = ⟨#[73]⟩) (rd rs1 rs2 im : Int) (hc : rv.chkS (rv.sh k) rd rs1 rs2 im = true) (w : World) :
    Calls Tryz.prog 75 #[.agg #[.int .i64 k, .int .i64 rd, .int .i64 rs1, .int .i64 rs2, .int .i64 im]] w fun e w' => e = .returned (.tuple #[.int .u32 (rv.wordK k rd rs1 rs2 im), .int .i64 0]) ∧ Below w.heap.size w w' := by
  have HC : Hid (∀ w, Calls Tryz.prog 98 #[.agg #[.int .i64 k, .int .i64 rd, .int .i64 rs1, .int .i64 rs2, .int .i64 im]] w fun e w' => e = .returned (.int .i64 0) ∧ Below w.heap.size w w') := bl.hid fun w => by
    have := rcheck_any k rd rs1 rs2 im w
    rwa [(rv.chkI_nat k h1 h2 rd rs1 rs2 im).mpr hc] at this
  have HA := fun w => rrow_ok k w h2 h1
  unfold rv.cells at HA
  rw [hf] at HA
  have hs : rv.sh k = rv.shI := by unfold rv.sh; rw [hf]; rfl
  have hl : rv.lt k = 73 := by unfold rv.lt; rw [hf]; rfl
  obtain ⟨⟨a0, a1⟩, ⟨b0, b1⟩, ⟨g0, g1⟩⟩ := rv.row_bd k h1 h2
  rw [hs] at hc
  have hcc := (rv.chk_I _ _ _ _).mp hc
  obtain ⟨hrd, hrs1, hrs2, him⟩ := hcc
  have hw : rv.wordK k rd rs1 rs2 im = _ := (show rv.wordK k rd rs1 rs2 im = VI (rv.row k).a (rv.row k).b (rv.row k).c rd rs1 rs2 im 3 by unfold rv.wordK; rw [hl]; rfl).trans (rv.VI_sum _ _ _ rd rs1 rs2 im ⟨a0, a1⟩ ⟨b0, b1⟩ ⟨g0, g1⟩ hrd hrs1)
  rw [hw]
  clear hc hs hl hw hf
  have HErs2 := bl.hid hrs2
  clear hrs2
  obtain ⟨ra, ea⟩ : ∃ z, (rv.row k).a = z := ⟨_, rfl⟩
  obtain ⟨rb, eb⟩ : ∃ z, (rv.row k).b = z := ⟨_, rfl⟩
  obtain ⟨rc, ec⟩ : ∃ z, (rv.row k).c = z := ⟨_, rfl⟩
  obtain ⟨nm, en⟩ : ∃ z, (rv.row k).name = z := ⟨_, rfl⟩
  rw [ea, eb, ec, en] at HA
  rw [ea] at a0 a1
  rw [eb] at b0 b1
  rw [ec] at g0 g1
  try rw [ea]
  try rw [eb]
  try rw [ec]
  clear ea eb ec en
  have HRow := bl.hid HA
  clear HA
  have HI0 := fun w => rimm_I im w
  rw [rf.immW_I] at HI0
  obtain ⟨x0, hx0⟩ : ∃ x, im % 4096 = x := ⟨_, rfl⟩
  have y0 : 0 ≤ x0 ∧ x0 < 4096 := by rw [← hx0]; exact ⟨Int.emod_nonneg _ (by omega), Int.emod_lt_of_pos _ (by omega)⟩
  rw [hx0] at HI0 ⊢
  clear hx0
  obtain ⟨z, hz⟩ : ∃ z, x0 * 1048576 = z := ⟨_, rfl⟩
  rw [hz] at HI0
  have HZ := bl.hid hz
  have HI := bl.hid HI0
  have HY := bl.hid him
  clear hz HI0 him
  go_enter Tryz.func75, Tryz.ntmps75
  go_wp2_with fail
  refine (HC.out _).mono ?_
  rintro e w1 ⟨rfl, hb⟩
  obtain ⟨r0, hb1, hs1⟩ := one_box hb
  obtain ⟨c0, c1, c2, c3, c4⟩ := RvAt.of_box r0
  have HR0 := bl.hid r0
  have HB1 := bl.hid hb1
  clear hb r0 hb1
  go_wp2_with fail
  refine (HRow.out _).mono ?_
  rintro e w2 ⟨rfl, hb⟩
  have r1 := (hb.block _ (by omega)).trans HR0.out
  clear c0 c1 c2 c3 c4
  obtain ⟨c0, c1, c2, c3, c4⟩ := RvAt.of_box r1
  have k2 : w.heap.size < w2.heap.size := block_lt_of_cell c0
  have HB2 := bl.hid (kt.below_call HB1.out hb)
  have HB3 : Hid (∀ o n, Below w.heap.size w ((w2.alloc o).drewN n)) := bl.hid fun o n => (kt.below_more' HB2.out o).drewN' n
  clear r1 hb
  go_wp2
  go_quiet ((go_at_call 99; exact Calls.quiet_of_same ((HI.out _).mono (fun e w' h => ⟨h.1, h.2.symm⟩))))
  go_wp2
  go_ret2
  refine ⟨bl.ret2 (bl.int_eq ?_) rfl, HB3.out _ _⟩
  have hrs2 := HErs2.out
  clear HErs2
  have hz := HZ.out
  have him := HY.out
  clear HZ HI HC HRow HY HR0 HB1 HB2 HB3 c0 c1 c2 c3 c4
  omega
set_option maxRecDepth 100000 in
set_option maxHeartbeats 1600000 in
theorem rencode_X (k : Nat) (h1 : k < 64) (h2 : 1 ≤ k) (hf : (rv.row k).form = ⟨#[88]⟩) (rd rs1 rs2 im : Int) (hc : rv.chkS (rv.sh k) rd rs1 rs2 im = true) (w : World) :
    Calls Tryz.prog 75 #[.agg #[.int .i64 k, .int .i64 rd, .int .i64 rs1, .int .i64 rs2, .int .i64 im]] w fun e w' => e = .returned (.tuple #[.int .u32 (rv.wordK k rd rs1 rs2 im), .int .i64 0]) ∧ Below w.heap.size w w' := by
  have HC : Hid (∀ w, Calls Tryz.prog 98 #[.agg #[.int .i64 k, .int .i64 rd, .int .i64 rs1, .int .i64 rs2, .int .i64 im]] w fun e w' => e = .returned (.int .i64 0) ∧ Below w.heap.size w w') := bl.hid fun w => by
    have := rcheck_any k rd rs1 rs2 im w
    rwa [(rv.chkI_nat k h1 h2 rd rs1 rs2 im).mpr hc] at this
  have HA := fun w => rrow_ok k w h2 h1
  unfold rv.cells at HA
  rw [hf] at HA
  have hs : rv.sh k = rv.shX := by unfold rv.sh; rw [hf]; rfl
  have hl : rv.lt k = 88 := by unfold rv.lt; rw [hf]; rfl
  obtain ⟨⟨a0, a1⟩, ⟨b0, b1⟩, ⟨g0, g1⟩⟩ := rv.row_bd k h1 h2
  rw [hs] at hc
  have hcc := (rv.chk_X _ _ _ _).mp hc
  obtain ⟨hrd, hrs1, hrs2, him⟩ := hcc
  have hw : rv.wordK k rd rs1 rs2 im = _ := (show rv.wordK k rd rs1 rs2 im = VX (rv.row k).a (rv.row k).b (rv.row k).c rd rs1 rs2 im 3 by unfold rv.wordK; rw [hl]; rfl).trans (rv.VX_sum _ _ _ rd rs1 rs2 im ⟨a0, a1⟩ ⟨b0, b1⟩ ⟨g0, g1⟩ hrd hrs1)
  rw [hw]
  clear hc hs hl hw hf
  have HErs2 := bl.hid hrs2
  clear hrs2
  obtain ⟨ra, ea⟩ : ∃ z, (rv.row k).a = z := ⟨_, rfl⟩
  obtain ⟨rb, eb⟩ : ∃ z, (rv.row k).b = z := ⟨_, rfl⟩
  obtain ⟨rc, ec⟩ : ∃ z, (rv.row k).c = z := ⟨_, rfl⟩
  obtain ⟨nm, en⟩ : ∃ z, (rv.row k).name = z := ⟨_, rfl⟩
  rw [ea, eb, ec, en] at HA
  rw [ea] at a0 a1
  rw [eb] at b0 b1
  rw [ec] at g0 g1
  try rw [ea]
  try rw [eb]
  try rw [ec]
  clear ea eb ec en
  have HRow := bl.hid HA
  clear HA
  have HI0 := fun w => rimm_X im w
  rw [rf.immW_X] at HI0
  obtain ⟨x0, hx0⟩ : ∃ x, im % 64 = x := ⟨_, rfl⟩
  have y0 : 0 ≤ x0 ∧ x0 < 64 := by rw [← hx0]; exact ⟨Int.emod_nonneg _ (by omega), Int.emod_lt_of_pos _ (by omega)⟩
  rw [hx0] at HI0 ⊢
  clear hx0
  obtain ⟨z, hz⟩ : ∃ z, x0 * 1048576 = z := ⟨_, rfl⟩
  rw [hz] at HI0
  have HZ := bl.hid hz
  have HI := bl.hid HI0
  have HY := bl.hid him
  clear hz HI0 him
  go_enter Tryz.func75, Tryz.ntmps75
  go_wp2_with fail
  refine (HC.out _).mono ?_
  rintro e w1 ⟨rfl, hb⟩
  obtain ⟨r0, hb1, hs1⟩ := one_box hb
  obtain ⟨c0, c1, c2, c3, c4⟩ := RvAt.of_box r0
  have HR0 := bl.hid r0
  have HB1 := bl.hid hb1
  clear hb r0 hb1
  go_wp2_with fail
  refine (HRow.out _).mono ?_
  rintro e w2 ⟨rfl, hb⟩
  have r1 := (hb.block _ (by omega)).trans HR0.out
  clear c0 c1 c2 c3 c4
  obtain ⟨c0, c1, c2, c3, c4⟩ := RvAt.of_box r1
  have k2 : w.heap.size < w2.heap.size := block_lt_of_cell c0
  have HB2 := bl.hid (kt.below_call HB1.out hb)
  have HB3 : Hid (∀ o n, Below w.heap.size w ((w2.alloc o).drewN n)) := bl.hid fun o n => (kt.below_more' HB2.out o).drewN' n
  clear r1 hb
  go_wp2
  go_quiet ((go_at_call 99; exact Calls.quiet_of_same ((HI.out _).mono (fun e w' h => ⟨h.1, h.2.symm⟩))))
  go_wp2
  refine kt.wp_forget (fun wf => wf.heap[w2.heap.size]? = some (.cells #[.string nm, .string ⟨#[88]⟩, .int .u32 ra, .int .u32 rb, .int .u32 rc] 107 (0, 0)) ∧ Below w.heap.size w wf) ⟨heap_alloc_new _ _, HB3.out _ _⟩ ?_
  rintro wf ⟨hrf, hbf⟩
  have d2 : wf.cell? ⟨w2.heap.size, 4, none⟩ = some (.int .u32 rc) := (cell_of_row _ _ _ _ _ _ hrf).trans rfl
  have d1 : wf.cell? ⟨w2.heap.size, 1, none⟩ = some (.string ⟨#[88]⟩) := (cell_of_row _ _ _ _ _ _ hrf).trans rfl
  have HBF : Hid (∀ n, Below w.heap.size w (wf.drewN n)) := bl.hid fun n => hbf.drewN' n
  clear hrf hbf c0 c1 c2 c3 c4 k2
  go_quiet ((go_at_call 100; exact Calls.quiet_of_same ((rabove_X _).mono (fun e w' h => ⟨h.1, h.2.symm⟩))))
  go_wp2
  go_ret2
  refine ⟨bl.ret2 (bl.int_eq ?_) rfl, HBF.out _⟩
  have hrs2 := HErs2.out
  clear HErs2
  have hz := HZ.out
  have him := HY.out
  clear HZ HI HC HRow HY HR0 HB1 HB2 HB3 HBF
  omega
set_option maxRecDepth 100000 in
set_option maxHeartbeats 1600000 in
theorem rencode_Y (k : Nat) (h1 : k < 64) (h2 : 1 ≤ k) (hf : (rv.row k).form = ⟨#[89]⟩) (rd rs1 rs2 im : Int) (hc : rv.chkS (rv.sh k) rd rs1 rs2 im = true) (w : World) :
    Calls Tryz.prog 75 #[.agg #[.int .i64 k, .int .i64 rd, .int .i64 rs1, .int .i64 rs2, .int .i64 im]] w fun e w' => e = .returned (.tuple #[.int .u32 (rv.wordK k rd rs1 rs2 im), .int .i64 0]) ∧ Below w.heap.size w w' := by
  have HC : Hid (∀ w, Calls Tryz.prog 98 #[.agg #[.int .i64 k, .int .i64 rd, .int .i64 rs1, .int .i64 rs2, .int .i64 im]] w fun e w' => e = .returned (.int .i64 0) ∧ Below w.heap.size w w') := bl.hid fun w => by
    have := rcheck_any k rd rs1 rs2 im w
    rwa [(rv.chkI_nat k h1 h2 rd rs1 rs2 im).mpr hc] at this
  have HA := fun w => rrow_ok k w h2 h1
  unfold rv.cells at HA
  rw [hf] at HA
  have hs : rv.sh k = rv.shY := by unfold rv.sh; rw [hf]; rfl
  have hl : rv.lt k = 89 := by unfold rv.lt; rw [hf]; rfl
  obtain ⟨⟨a0, a1⟩, ⟨b0, b1⟩, ⟨g0, g1⟩⟩ := rv.row_bd k h1 h2
  rw [hs] at hc
  have hcc := (rv.chk_Y _ _ _ _).mp hc
  obtain ⟨hrd, hrs1, hrs2, him⟩ := hcc
  have hw : rv.wordK k rd rs1 rs2 im = _ := (show rv.wordK k rd rs1 rs2 im = VY (rv.row k).a (rv.row k).b (rv.row k).c rd rs1 rs2 im 3 by unfold rv.wordK; rw [hl]; rfl).trans (rv.VY_sum _ _ _ rd rs1 rs2 im ⟨a0, a1⟩ ⟨b0, b1⟩ ⟨g0, g1⟩ hrd hrs1)
  rw [hw]
  clear hc hs hl hw hf
  have HErs2 := bl.hid hrs2
  clear hrs2
  obtain ⟨ra, ea⟩ : ∃ z, (rv.row k).a = z := ⟨_, rfl⟩
  obtain ⟨rb, eb⟩ : ∃ z, (rv.row k).b = z := ⟨_, rfl⟩
  obtain ⟨rc, ec⟩ : ∃ z, (rv.row k).c = z := ⟨_, rfl⟩
  obtain ⟨nm, en⟩ : ∃ z, (rv.row k).name = z := ⟨_, rfl⟩
  rw [ea, eb, ec, en] at HA
  rw [ea] at a0 a1
  rw [eb] at b0 b1
  rw [ec] at g0 g1
  try rw [ea]
  try rw [eb]
  try rw [ec]
  clear ea eb ec en
  have HRow := bl.hid HA
  clear HA
  have HI0 := fun w => rimm_Y im w
  rw [rf.immW_Y] at HI0
  obtain ⟨x0, hx0⟩ : ∃ x, im % 32 = x := ⟨_, rfl⟩
  have y0 : 0 ≤ x0 ∧ x0 < 32 := by rw [← hx0]; exact ⟨Int.emod_nonneg _ (by omega), Int.emod_lt_of_pos _ (by omega)⟩
  rw [hx0] at HI0 ⊢
  clear hx0
  obtain ⟨z, hz⟩ : ∃ z, x0 * 1048576 = z := ⟨_, rfl⟩
  rw [hz] at HI0
  have HZ := bl.hid hz
  have HI := bl.hid HI0
  have HY := bl.hid him
  clear hz HI0 him
  go_enter Tryz.func75, Tryz.ntmps75
  go_wp2_with fail
  refine (HC.out _).mono ?_
  rintro e w1 ⟨rfl, hb⟩
  obtain ⟨r0, hb1, hs1⟩ := one_box hb
  obtain ⟨c0, c1, c2, c3, c4⟩ := RvAt.of_box r0
  have HR0 := bl.hid r0
  have HB1 := bl.hid hb1
  clear hb r0 hb1
  go_wp2_with fail
  refine (HRow.out _).mono ?_
  rintro e w2 ⟨rfl, hb⟩
  have r1 := (hb.block _ (by omega)).trans HR0.out
  clear c0 c1 c2 c3 c4
  obtain ⟨c0, c1, c2, c3, c4⟩ := RvAt.of_box r1
  have k2 : w.heap.size < w2.heap.size := block_lt_of_cell c0
  have HB2 := bl.hid (kt.below_call HB1.out hb)
  have HB3 : Hid (∀ o n, Below w.heap.size w ((w2.alloc o).drewN n)) := bl.hid fun o n => (kt.below_more' HB2.out o).drewN' n
  clear r1 hb
  go_wp2
  go_quiet ((go_at_call 99; exact Calls.quiet_of_same ((HI.out _).mono (fun e w' h => ⟨h.1, h.2.symm⟩))))
  go_wp2
  refine kt.wp_forget (fun wf => wf.heap[w2.heap.size]? = some (.cells #[.string nm, .string ⟨#[89]⟩, .int .u32 ra, .int .u32 rb, .int .u32 rc] 107 (0, 0)) ∧ Below w.heap.size w wf) ⟨heap_alloc_new _ _, HB3.out _ _⟩ ?_
  rintro wf ⟨hrf, hbf⟩
  have d2 : wf.cell? ⟨w2.heap.size, 4, none⟩ = some (.int .u32 rc) := (cell_of_row _ _ _ _ _ _ hrf).trans rfl
  have d1 : wf.cell? ⟨w2.heap.size, 1, none⟩ = some (.string ⟨#[89]⟩) := (cell_of_row _ _ _ _ _ _ hrf).trans rfl
  have HBF : Hid (∀ n, Below w.heap.size w (wf.drewN n)) := bl.hid fun n => hbf.drewN' n
  clear hrf hbf c0 c1 c2 c3 c4 k2
  go_quiet ((go_at_call 100; exact Calls.quiet_of_same ((rabove_Y _).mono (fun e w' h => ⟨h.1, h.2.symm⟩))))
  go_wp2
  go_ret2
  refine ⟨bl.ret2 (bl.int_eq ?_) rfl, HBF.out _⟩
  have hrs2 := HErs2.out
  clear HErs2
  have hz := HZ.out
  have him := HY.out
  clear HZ HI HC HRow HY HR0 HB1 HB2 HB3 HBF
  omega
set_option maxRecDepth 100000 in
set_option maxHeartbeats 1600000 in
theorem rencode_S (k : Nat) (h1 : k < 64) (h2 : 1 ≤ k) (hf : (rv.row k).form = ⟨#[83]⟩) (rd rs1 rs2 im : Int) (hc : rv.chkS (rv.sh k) rd rs1 rs2 im = true) (w : World) :
    Calls Tryz.prog 75 #[.agg #[.int .i64 k, .int .i64 rd, .int .i64 rs1, .int .i64 rs2, .int .i64 im]] w fun e w' => e = .returned (.tuple #[.int .u32 (rv.wordK k rd rs1 rs2 im), .int .i64 0]) ∧ Below w.heap.size w w' := by
  have HC : Hid (∀ w, Calls Tryz.prog 98 #[.agg #[.int .i64 k, .int .i64 rd, .int .i64 rs1, .int .i64 rs2, .int .i64 im]] w fun e w' => e = .returned (.int .i64 0) ∧ Below w.heap.size w w') := bl.hid fun w => by
    have := rcheck_any k rd rs1 rs2 im w
    rwa [(rv.chkI_nat k h1 h2 rd rs1 rs2 im).mpr hc] at this
  have HA := fun w => rrow_ok k w h2 h1
  unfold rv.cells at HA
  rw [hf] at HA
  have hs : rv.sh k = rv.shS := by unfold rv.sh; rw [hf]; rfl
  have hl : rv.lt k = 83 := by unfold rv.lt; rw [hf]; rfl
  obtain ⟨⟨a0, a1⟩, ⟨b0, b1⟩, ⟨g0, g1⟩⟩ := rv.row_bd k h1 h2
  rw [hs] at hc
  have hcc := (rv.chk_S _ _ _ _).mp hc
  obtain ⟨hrd, hrs1, hrs2, him⟩ := hcc
  have hw : rv.wordK k rd rs1 rs2 im = _ := (show rv.wordK k rd rs1 rs2 im = VS (rv.row k).a (rv.row k).b (rv.row k).c rd rs1 rs2 im 3 by unfold rv.wordK; rw [hl]; rfl).trans (rv.VS_sum _ _ _ rd rs1 rs2 im ⟨a0, a1⟩ ⟨b0, b1⟩ ⟨g0, g1⟩ hrs1 hrs2)
  rw [hw]
  clear hc hs hl hw hf
  have HErd := bl.hid hrd
  clear hrd
  obtain ⟨ra, ea⟩ : ∃ z, (rv.row k).a = z := ⟨_, rfl⟩
  obtain ⟨rb, eb⟩ : ∃ z, (rv.row k).b = z := ⟨_, rfl⟩
  obtain ⟨rc, ec⟩ : ∃ z, (rv.row k).c = z := ⟨_, rfl⟩
  obtain ⟨nm, en⟩ : ∃ z, (rv.row k).name = z := ⟨_, rfl⟩
  rw [ea, eb, ec, en] at HA
  rw [ea] at a0 a1
  rw [eb] at b0 b1
  rw [ec] at g0 g1
  try rw [ea]
  try rw [eb]
  try rw [ec]
  clear ea eb ec en
  have HRow := bl.hid HA
  clear HA
  have HI0 := fun w => rimm_S im w
  rw [rf.immW_S] at HI0
  obtain ⟨x0, hx0⟩ : ∃ x, im % 32 = x := ⟨_, rfl⟩
  have y0 : 0 ≤ x0 ∧ x0 < 32 := by rw [← hx0]; exact ⟨Int.emod_nonneg _ (by omega), Int.emod_lt_of_pos _ (by omega)⟩
  rw [hx0] at HI0 ⊢
  clear hx0
  obtain ⟨x1, hx1⟩ : ∃ x, im / 32 % 128 = x := ⟨_, rfl⟩
  have y1 : 0 ≤ x1 ∧ x1 < 128 := by rw [← hx1]; exact ⟨Int.emod_nonneg _ (by omega), Int.emod_lt_of_pos _ (by omega)⟩
  rw [hx1] at HI0 ⊢
  clear hx1
  obtain ⟨z, hz⟩ : ∃ z, x0 * 128 + x1 * 33554432 = z := ⟨_, rfl⟩
  rw [hz] at HI0
  have HZ := bl.hid hz
  have HI := bl.hid HI0
  have HY := bl.hid him
  clear hz HI0 him
  go_enter Tryz.func75, Tryz.ntmps75
  go_wp2_with fail
  refine (HC.out _).mono ?_
  rintro e w1 ⟨rfl, hb⟩
  obtain ⟨r0, hb1, hs1⟩ := one_box hb
  obtain ⟨c0, c1, c2, c3, c4⟩ := RvAt.of_box r0
  have HR0 := bl.hid r0
  have HB1 := bl.hid hb1
  clear hb r0 hb1
  go_wp2_with fail
  refine (HRow.out _).mono ?_
  rintro e w2 ⟨rfl, hb⟩
  have r1 := (hb.block _ (by omega)).trans HR0.out
  clear c0 c1 c2 c3 c4
  obtain ⟨c0, c1, c2, c3, c4⟩ := RvAt.of_box r1
  have k2 : w.heap.size < w2.heap.size := block_lt_of_cell c0
  have HB2 := bl.hid (kt.below_call HB1.out hb)
  have HB3 : Hid (∀ o n, Below w.heap.size w ((w2.alloc o).drewN n)) := bl.hid fun o n => (kt.below_more' HB2.out o).drewN' n
  clear r1 hb
  go_wp2
  go_quiet ((go_at_call 99; exact Calls.quiet_of_same ((HI.out _).mono (fun e w' h => ⟨h.1, h.2.symm⟩))))
  go_wp2
  go_ret2
  refine ⟨bl.ret2 (bl.int_eq ?_) rfl, HB3.out _ _⟩
  have hrd := HErd.out
  clear HErd
  have hz := HZ.out
  have him := HY.out
  clear HZ HI HC HRow HY HR0 HB1 HB2 HB3 c0 c1 c2 c3 c4
  omega
set_option maxRecDepth 100000 in
set_option maxHeartbeats 1600000 in
theorem rencode_B (k : Nat) (h1 : k < 64) (h2 : 1 ≤ k) (hf : (rv.row k).form = ⟨#[66]⟩) (rd rs1 rs2 im : Int) (hc : rv.chkS (rv.sh k) rd rs1 rs2 im = true) (w : World) :
    Calls Tryz.prog 75 #[.agg #[.int .i64 k, .int .i64 rd, .int .i64 rs1, .int .i64 rs2, .int .i64 im]] w fun e w' => e = .returned (.tuple #[.int .u32 (rv.wordK k rd rs1 rs2 im), .int .i64 0]) ∧ Below w.heap.size w w' := by
  have HC : Hid (∀ w, Calls Tryz.prog 98 #[.agg #[.int .i64 k, .int .i64 rd, .int .i64 rs1, .int .i64 rs2, .int .i64 im]] w fun e w' => e = .returned (.int .i64 0) ∧ Below w.heap.size w w') := bl.hid fun w => by
    have := rcheck_any k rd rs1 rs2 im w
    rwa [(rv.chkI_nat k h1 h2 rd rs1 rs2 im).mpr hc] at this
  have HA := fun w => rrow_ok k w h2 h1
  unfold rv.cells at HA
  rw [hf] at HA
  have hs : rv.sh k = rv.shB := by unfold rv.sh; rw [hf]; rfl
  have hl : rv.lt k = 66 := by unfold rv.lt; rw [hf]; rfl
  obtain ⟨⟨a0, a1⟩, ⟨b0, b1⟩, ⟨g0, g1⟩⟩ := rv.row_bd k h1 h2
  rw [hs] at hc
  have hcc := (rv.chk_B _ _ _ _).mp hc
  obtain ⟨hrd, hrs1, hrs2, him⟩ := hcc
  have hw : rv.wordK k rd rs1 rs2 im = _ := (show rv.wordK k rd rs1 rs2 im = VB (rv.row k).a (rv.row k).b (rv.row k).c rd rs1 rs2 im 3 by unfold rv.wordK; rw [hl]; rfl).trans (rv.VB_sum _ _ _ rd rs1 rs2 im ⟨a0, a1⟩ ⟨b0, b1⟩ ⟨g0, g1⟩ hrs1 hrs2)
  rw [hw]
  clear hc hs hl hw hf
  have HErd := bl.hid hrd
  clear hrd
  obtain ⟨ra, ea⟩ : ∃ z, (rv.row k).a = z := ⟨_, rfl⟩
  obtain ⟨rb, eb⟩ : ∃ z, (rv.row k).b = z := ⟨_, rfl⟩
  obtain ⟨rc, ec⟩ : ∃ z, (rv.row k).c = z := ⟨_, rfl⟩
  obtain ⟨nm, en⟩ : ∃ z, (rv.row k).name = z := ⟨_, rfl⟩
  rw [ea, eb, ec, en] at HA
  rw [ea] at a0 a1
  rw [eb] at b0 b1
  rw [ec] at g0 g1
  try rw [ea]
  try rw [eb]
  try rw [ec]
  clear ea eb ec en
  have HRow := bl.hid HA
  clear HA
  have HI0 := fun w => rimm_B im w
  rw [rf.immW_B] at HI0
  obtain ⟨x0, hx0⟩ : ∃ x, im / 2048 % 2 = x := ⟨_, rfl⟩
  have y0 : 0 ≤ x0 ∧ x0 < 2 := by rw [← hx0]; exact ⟨Int.emod_nonneg _ (by omega), Int.emod_lt_of_pos _ (by omega)⟩
  rw [hx0] at HI0 ⊢
  clear hx0
  obtain ⟨x1, hx1⟩ : ∃ x, im / 2 % 16 = x := ⟨_, rfl⟩
  have y1 : 0 ≤ x1 ∧ x1 < 16 := by rw [← hx1]; exact ⟨Int.emod_nonneg _ (by omega), Int.emod_lt_of_pos _ (by omega)⟩
  rw [hx1] at HI0 ⊢
  clear hx1
  obtain ⟨x2, hx2⟩ : ∃ x, im / 32 % 64 = x := ⟨_, rfl⟩
  have y2 : 0 ≤ x2 ∧ x2 < 64 := by rw [← hx2]; exact ⟨Int.emod_nonneg _ (by omega), Int.emod_lt_of_pos _ (by omega)⟩
  rw [hx2] at HI0 ⊢
  clear hx2
  obtain ⟨x3, hx3⟩ : ∃ x, im / 4096 % 2 = x := ⟨_, rfl⟩
  have y3 : 0 ≤ x3 ∧ x3 < 2 := by rw [← hx3]; exact ⟨Int.emod_nonneg _ (by omega), Int.emod_lt_of_pos _ (by omega)⟩
  rw [hx3] at HI0 ⊢
  clear hx3
  obtain ⟨z, hz⟩ : ∃ z, x0 * 128 + x1 * 256 + x2 * 33554432 + x3 * 2147483648 = z := ⟨_, rfl⟩
  rw [hz] at HI0
  have HZ := bl.hid hz
  have HI := bl.hid HI0
  have HY := bl.hid him
  clear hz HI0 him
  go_enter Tryz.func75, Tryz.ntmps75
  go_wp2_with fail
  refine (HC.out _).mono ?_
  rintro e w1 ⟨rfl, hb⟩
  obtain ⟨r0, hb1, hs1⟩ := one_box hb
  obtain ⟨c0, c1, c2, c3, c4⟩ := RvAt.of_box r0
  have HR0 := bl.hid r0
  have HB1 := bl.hid hb1
  clear hb r0 hb1
  go_wp2_with fail
  refine (HRow.out _).mono ?_
  rintro e w2 ⟨rfl, hb⟩
  have r1 := (hb.block _ (by omega)).trans HR0.out
  clear c0 c1 c2 c3 c4
  obtain ⟨c0, c1, c2, c3, c4⟩ := RvAt.of_box r1
  have k2 : w.heap.size < w2.heap.size := block_lt_of_cell c0
  have HB2 := bl.hid (kt.below_call HB1.out hb)
  have HB3 : Hid (∀ o n, Below w.heap.size w ((w2.alloc o).drewN n)) := bl.hid fun o n => (kt.below_more' HB2.out o).drewN' n
  clear r1 hb
  go_wp2
  go_quiet ((go_at_call 99; exact Calls.quiet_of_same ((HI.out _).mono (fun e w' h => ⟨h.1, h.2.symm⟩))))
  go_wp2
  go_ret2
  refine ⟨bl.ret2 (bl.int_eq ?_) rfl, HB3.out _ _⟩
  have hrd := HErd.out
  clear HErd
  have hz := HZ.out
  have him := HY.out
  clear HZ HI HC HRow HY HR0 HB1 HB2 HB3 c0 c1 c2 c3 c4
  omega
set_option maxRecDepth 100000 in
set_option maxHeartbeats 1600000 in
theorem rencode_U (k : Nat) (h1 : k < 64) (h2 : 1 ≤ k) (hf : (rv.row k).form = ⟨#[85]⟩) (rd rs1 rs2 im : Int) (hc : rv.chkS (rv.sh k) rd rs1 rs2 im = true) (w : World) :
    Calls Tryz.prog 75 #[.agg #[.int .i64 k, .int .i64 rd, .int .i64 rs1, .int .i64 rs2, .int .i64 im]] w fun e w' => e = .returned (.tuple #[.int .u32 (rv.wordK k rd rs1 rs2 im), .int .i64 0]) ∧ Below w.heap.size w w' := by
  have HC : Hid (∀ w, Calls Tryz.prog 98 #[.agg #[.int .i64 k, .int .i64 rd, .int .i64 rs1, .int .i64 rs2, .int .i64 im]] w fun e w' => e = .returned (.int .i64 0) ∧ Below w.heap.size w w') := bl.hid fun w => by
    have := rcheck_any k rd rs1 rs2 im w
    rwa [(rv.chkI_nat k h1 h2 rd rs1 rs2 im).mpr hc] at this
  have HA := fun w => rrow_ok k w h2 h1
  unfold rv.cells at HA
  rw [hf] at HA
  have hs : rv.sh k = rv.shU := by unfold rv.sh; rw [hf]; rfl
  have hl : rv.lt k = 85 := by unfold rv.lt; rw [hf]; rfl
  obtain ⟨⟨a0, a1⟩, ⟨b0, b1⟩, ⟨g0, g1⟩⟩ := rv.row_bd k h1 h2
  rw [hs] at hc
  have hcc := (rv.chk_U _ _ _ _).mp hc
  obtain ⟨hrd, hrs1, hrs2, him⟩ := hcc
  have hw : rv.wordK k rd rs1 rs2 im = _ := (show rv.wordK k rd rs1 rs2 im = VU (rv.row k).a (rv.row k).b (rv.row k).c rd rs1 rs2 im 2 by unfold rv.wordK; rw [hl]; rfl).trans (rv.VU_sum _ _ _ rd rs1 rs2 im ⟨a0, a1⟩ ⟨b0, b1⟩ ⟨g0, g1⟩ hrd)
  rw [hw]
  clear hc hs hl hw hf
  have HErs1 := bl.hid hrs1
  clear hrs1
  have HErs2 := bl.hid hrs2
  clear hrs2
  obtain ⟨ra, ea⟩ : ∃ z, (rv.row k).a = z := ⟨_, rfl⟩
  obtain ⟨rb, eb⟩ : ∃ z, (rv.row k).b = z := ⟨_, rfl⟩
  obtain ⟨rc, ec⟩ : ∃ z, (rv.row k).c = z := ⟨_, rfl⟩
  obtain ⟨nm, en⟩ : ∃ z, (rv.row k).name = z := ⟨_, rfl⟩
  rw [ea, eb, ec, en] at HA
  rw [ea] at a0 a1
  rw [eb] at b0 b1
  rw [ec] at g0 g1
  try rw [ea]
  try rw [eb]
  try rw [ec]
  clear ea eb ec en
  have HRow := bl.hid HA
  clear HA
  have HI0 := fun w => rimm_U im w
  rw [rf.immW_U] at HI0
  obtain ⟨x0, hx0⟩ : ∃ x, im % 1048576 = x := ⟨_, rfl⟩
  have y0 : 0 ≤ x0 ∧ x0 < 1048576 := by rw [← hx0]; exact ⟨Int.emod_nonneg _ (by omega), Int.emod_lt_of_pos _ (by omega)⟩
  rw [hx0] at HI0 ⊢
  clear hx0
  obtain ⟨z, hz⟩ : ∃ z, x0 * 4096 = z := ⟨_, rfl⟩
  rw [hz] at HI0
  have HZ := bl.hid hz
  have HI := bl.hid HI0
  have HY := bl.hid him
  clear hz HI0 him
  go_enter Tryz.func75, Tryz.ntmps75
  go_wp2_with fail
  refine (HC.out _).mono ?_
  rintro e w1 ⟨rfl, hb⟩
  obtain ⟨r0, hb1, hs1⟩ := one_box hb
  obtain ⟨c0, c1, c2, c3, c4⟩ := RvAt.of_box r0
  have HR0 := bl.hid r0
  have HB1 := bl.hid hb1
  clear hb r0 hb1
  go_wp2_with fail
  refine (HRow.out _).mono ?_
  rintro e w2 ⟨rfl, hb⟩
  have r1 := (hb.block _ (by omega)).trans HR0.out
  clear c0 c1 c2 c3 c4
  obtain ⟨c0, c1, c2, c3, c4⟩ := RvAt.of_box r1
  have k2 : w.heap.size < w2.heap.size := block_lt_of_cell c0
  have HB2 := bl.hid (kt.below_call HB1.out hb)
  have HB3 : Hid (∀ o n, Below w.heap.size w ((w2.alloc o).drewN n)) := bl.hid fun o n => (kt.below_more' HB2.out o).drewN' n
  clear r1 hb
  go_wp2
  go_quiet ((go_at_call 99; exact Calls.quiet_of_same ((HI.out _).mono (fun e w' h => ⟨h.1, h.2.symm⟩))))
  go_wp2
  go_ret2
  refine ⟨bl.ret2 (bl.int_eq ?_) rfl, HB3.out _ _⟩
  have hrs1 := HErs1.out
  clear HErs1
  have hrs2 := HErs2.out
  clear HErs2
  have hz := HZ.out
  have him := HY.out
  clear HZ HI HC HRow HY HR0 HB1 HB2 HB3 c0 c1 c2 c3 c4
  omega
set_option maxRecDepth 100000 in
set_option maxHeartbeats 1600000 in
theorem rencode_J (k : Nat) (h1 : k < 64) (h2 : 1 ≤ k) (hf : (rv.row k).form = ⟨#[74]⟩) (rd rs1 rs2 im : Int) (hc : rv.chkS (rv.sh k) rd rs1 rs2 im = true) (w : World) :
    Calls Tryz.prog 75 #[.agg #[.int .i64 k, .int .i64 rd, .int .i64 rs1, .int .i64 rs2, .int .i64 im]] w fun e w' => e = .returned (.tuple #[.int .u32 (rv.wordK k rd rs1 rs2 im), .int .i64 0]) ∧ Below w.heap.size w w' := by
  have HC : Hid (∀ w, Calls Tryz.prog 98 #[.agg #[.int .i64 k, .int .i64 rd, .int .i64 rs1, .int .i64 rs2, .int .i64 im]] w fun e w' => e = .returned (.int .i64 0) ∧ Below w.heap.size w w') := bl.hid fun w => by
    have := rcheck_any k rd rs1 rs2 im w
    rwa [(rv.chkI_nat k h1 h2 rd rs1 rs2 im).mpr hc] at this
  have HA := fun w => rrow_ok k w h2 h1
  unfold rv.cells at HA
  rw [hf] at HA
  have hs : rv.sh k = rv.shJ := by unfold rv.sh; rw [hf]; rfl
  have hl : rv.lt k = 74 := by unfold rv.lt; rw [hf]; rfl
  obtain ⟨⟨a0, a1⟩, ⟨b0, b1⟩, ⟨g0, g1⟩⟩ := rv.row_bd k h1 h2
  rw [hs] at hc
  have hcc := (rv.chk_J _ _ _ _).mp hc
  obtain ⟨hrd, hrs1, hrs2, him⟩ := hcc
  have hw : rv.wordK k rd rs1 rs2 im = _ := (show rv.wordK k rd rs1 rs2 im = VJ (rv.row k).a (rv.row k).b (rv.row k).c rd rs1 rs2 im 2 by unfold rv.wordK; rw [hl]; rfl).trans (rv.VJ_sum _ _ _ rd rs1 rs2 im ⟨a0, a1⟩ ⟨b0, b1⟩ ⟨g0, g1⟩ hrd)
  rw [hw]
  clear hc hs hl hw hf
  have HErs1 := bl.hid hrs1
  clear hrs1
  have HErs2 := bl.hid hrs2
  clear hrs2
  obtain ⟨ra, ea⟩ : ∃ z, (rv.row k).a = z := ⟨_, rfl⟩
  obtain ⟨rb, eb⟩ : ∃ z, (rv.row k).b = z := ⟨_, rfl⟩
  obtain ⟨rc, ec⟩ : ∃ z, (rv.row k).c = z := ⟨_, rfl⟩
  obtain ⟨nm, en⟩ : ∃ z, (rv.row k).name = z := ⟨_, rfl⟩
  rw [ea, eb, ec, en] at HA
  rw [ea] at a0 a1
  rw [eb] at b0 b1
  rw [ec] at g0 g1
  try rw [ea]
  try rw [eb]
  try rw [ec]
  clear ea eb ec en
  have HRow := bl.hid HA
  clear HA
  have HI0 := fun w => rimm_J im w
  rw [rf.immW_J] at HI0
  obtain ⟨x0, hx0⟩ : ∃ x, im / 4096 % 256 = x := ⟨_, rfl⟩
  have y0 : 0 ≤ x0 ∧ x0 < 256 := by rw [← hx0]; exact ⟨Int.emod_nonneg _ (by omega), Int.emod_lt_of_pos _ (by omega)⟩
  rw [hx0] at HI0 ⊢
  clear hx0
  obtain ⟨x1, hx1⟩ : ∃ x, im / 2048 % 2 = x := ⟨_, rfl⟩
  have y1 : 0 ≤ x1 ∧ x1 < 2 := by rw [← hx1]; exact ⟨Int.emod_nonneg _ (by omega), Int.emod_lt_of_pos _ (by omega)⟩
  rw [hx1] at HI0 ⊢
  clear hx1
  obtain ⟨x2, hx2⟩ : ∃ x, im / 2 % 1024 = x := ⟨_, rfl⟩
  have y2 : 0 ≤ x2 ∧ x2 < 1024 := by rw [← hx2]; exact ⟨Int.emod_nonneg _ (by omega), Int.emod_lt_of_pos _ (by omega)⟩
  rw [hx2] at HI0 ⊢
  clear hx2
  obtain ⟨x3, hx3⟩ : ∃ x, im / 1048576 % 2 = x := ⟨_, rfl⟩
  have y3 : 0 ≤ x3 ∧ x3 < 2 := by rw [← hx3]; exact ⟨Int.emod_nonneg _ (by omega), Int.emod_lt_of_pos _ (by omega)⟩
  rw [hx3] at HI0 ⊢
  clear hx3
  obtain ⟨z, hz⟩ : ∃ z, x0 * 4096 + x1 * 1048576 + x2 * 2097152 + x3 * 2147483648 = z := ⟨_, rfl⟩
  rw [hz] at HI0
  have HZ := bl.hid hz
  have HI := bl.hid HI0
  have HY := bl.hid him
  clear hz HI0 him
  go_enter Tryz.func75, Tryz.ntmps75
  go_wp2_with fail
  refine (HC.out _).mono ?_
  rintro e w1 ⟨rfl, hb⟩
  obtain ⟨r0, hb1, hs1⟩ := one_box hb
  obtain ⟨c0, c1, c2, c3, c4⟩ := RvAt.of_box r0
  have HR0 := bl.hid r0
  have HB1 := bl.hid hb1
  clear hb r0 hb1
  go_wp2_with fail
  refine (HRow.out _).mono ?_
  rintro e w2 ⟨rfl, hb⟩
  have r1 := (hb.block _ (by omega)).trans HR0.out
  clear c0 c1 c2 c3 c4
  obtain ⟨c0, c1, c2, c3, c4⟩ := RvAt.of_box r1
  have k2 : w.heap.size < w2.heap.size := block_lt_of_cell c0
  have HB2 := bl.hid (kt.below_call HB1.out hb)
  have HB3 : Hid (∀ o n, Below w.heap.size w ((w2.alloc o).drewN n)) := bl.hid fun o n => (kt.below_more' HB2.out o).drewN' n
  clear r1 hb
  go_wp2
  go_quiet ((go_at_call 99; exact Calls.quiet_of_same ((HI.out _).mono (fun e w' h => ⟨h.1, h.2.symm⟩))))
  go_wp2
  go_ret2
  refine ⟨bl.ret2 (bl.int_eq ?_) rfl, HB3.out _ _⟩
  have hrs1 := HErs1.out
  clear HErs1
  have hrs2 := HErs2.out
  clear HErs2
  have hz := HZ.out
  have him := HY.out
  clear HZ HI HC HRow HY HR0 HB1 HB2 HB3 c0 c1 c2 c3 c4
  omega
set_option maxRecDepth 100000 in
set_option maxHeartbeats 1600000 in
theorem rencode_E (k : Nat) (h1 : k < 64) (h2 : 1 ≤ k) (hf : (rv.row k).form = ⟨#[69]⟩) (rd rs1 rs2 im : Int) (hc : rv.chkS (rv.sh k) rd rs1 rs2 im = true) (w : World) :
    Calls Tryz.prog 75 #[.agg #[.int .i64 k, .int .i64 rd, .int .i64 rs1, .int .i64 rs2, .int .i64 im]] w fun e w' => e = .returned (.tuple #[.int .u32 (rv.wordK k rd rs1 rs2 im), .int .i64 0]) ∧ Below w.heap.size w w' := by
  have HC : Hid (∀ w, Calls Tryz.prog 98 #[.agg #[.int .i64 k, .int .i64 rd, .int .i64 rs1, .int .i64 rs2, .int .i64 im]] w fun e w' => e = .returned (.int .i64 0) ∧ Below w.heap.size w w') := bl.hid fun w => by
    have := rcheck_any k rd rs1 rs2 im w
    rwa [(rv.chkI_nat k h1 h2 rd rs1 rs2 im).mpr hc] at this
  have HA := fun w => rrow_ok k w h2 h1
  unfold rv.cells at HA
  rw [hf] at HA
  have hs : rv.sh k = rv.shE := by unfold rv.sh; rw [hf]; rfl
  have hl : rv.lt k = 69 := by unfold rv.lt; rw [hf]; rfl
  obtain ⟨⟨a0, a1⟩, ⟨b0, b1⟩, ⟨g0, g1⟩⟩ := rv.row_bd k h1 h2
  rw [hs] at hc
  have hcc := (rv.chk_E _ _ _ _).mp hc
  obtain ⟨hrd, hrs1, hrs2, him⟩ := hcc
  have hw : rv.wordK k rd rs1 rs2 im = (rv.row k).a := by unfold rv.wordK; rw [hl]; rfl
  rw [hw]
  clear hc hs hl hw hf
  have HErd := bl.hid hrd
  clear hrd
  have HErs1 := bl.hid hrs1
  clear hrs1
  have HErs2 := bl.hid hrs2
  clear hrs2
  obtain ⟨ra, ea⟩ : ∃ z, (rv.row k).a = z := ⟨_, rfl⟩
  obtain ⟨rb, eb⟩ : ∃ z, (rv.row k).b = z := ⟨_, rfl⟩
  obtain ⟨rc, ec⟩ : ∃ z, (rv.row k).c = z := ⟨_, rfl⟩
  obtain ⟨nm, en⟩ : ∃ z, (rv.row k).name = z := ⟨_, rfl⟩
  rw [ea, eb, ec, en] at HA
  rw [ea] at a0 a1
  rw [eb] at b0 b1
  rw [ec] at g0 g1
  try rw [ea]
  try rw [eb]
  try rw [ec]
  clear ea eb ec en
  have HRow := bl.hid HA
  clear HA
  have HI0 := fun w => rimm_E im w
  have hz : (0 : Int) = 0 := rfl
  obtain ⟨z, hz⟩ : ∃ z : Int, 0 = z := ⟨_, rfl⟩
  have HI0 : ∀ w, Calls Tryz.prog 99 #[.string ⟨#[69]⟩, .int .i64 im] w fun e w' => e = .returned (.int .u32 z) ∧ w = w' := fun w => by rw [← hz]; exact rimm_E im w
  have HZ := bl.hid hz
  have HI := bl.hid HI0
  have HY := bl.hid him
  clear hz HI0 him
  go_enter Tryz.func75, Tryz.ntmps75
  go_wp2_with fail
  refine (HC.out _).mono ?_
  rintro e w1 ⟨rfl, hb⟩
  obtain ⟨r0, hb1, hs1⟩ := one_box hb
  obtain ⟨c0, c1, c2, c3, c4⟩ := RvAt.of_box r0
  have HR0 := bl.hid r0
  have HB1 := bl.hid hb1
  clear hb r0 hb1
  go_wp2_with fail
  refine (HRow.out _).mono ?_
  rintro e w2 ⟨rfl, hb⟩
  have r1 := (hb.block _ (by omega)).trans HR0.out
  clear c0 c1 c2 c3 c4
  obtain ⟨c0, c1, c2, c3, c4⟩ := RvAt.of_box r1
  have k2 : w.heap.size < w2.heap.size := block_lt_of_cell c0
  have HB2 := bl.hid (kt.below_call HB1.out hb)
  have HB3 : Hid (∀ o n, Below w.heap.size w ((w2.alloc o).drewN n)) := bl.hid fun o n => (kt.below_more' HB2.out o).drewN' n
  clear r1 hb
  go_wp2
  go_quiet ((go_at_call 99; exact Calls.quiet_of_same ((HI.out _).mono (fun e w' h => ⟨h.1, h.2.symm⟩))))
  go_wp2
  go_ret2
  refine ⟨bl.ret2 (bl.int_eq ?_) rfl, HB3.out _ _⟩
  have hrd := HErd.out
  clear HErd
  have hrs1 := HErs1.out
  clear HErs1
  have hrs2 := HErs2.out
  clear HErs2
  have hz := HZ.out
  have him := HY.out
  clear HZ HI HC HRow HY HR0 HB1 HB2 HB3 c0 c1 c2 c3 c4
  omega
end Go.Proofs.YtjjkocklpcdbkaaGreat
