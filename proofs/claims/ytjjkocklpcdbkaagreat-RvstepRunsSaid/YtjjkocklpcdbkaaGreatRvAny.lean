/- read at form E; Check, word and read at any operation. -/
import Derived.Test.YtjjkocklpcdbkaaGreatRvRead
import Derived.Test.YtjjkocklpcdbkaaGreatRvCheck
import Derived.Test.YtjjkocklpcdbkaaGreatRvWord
import Derived.Test.YtjjkocklpcdbkaaGreatGr2
namespace Go.Proofs.YtjjkocklpcdbkaaGreat
open Go.RowKit
set_option linter.unusedVariables false
set_option maxRecDepth 100000
set_option maxRecDepth 100000 in
set_option maxHeartbeats 3200000 in
theorem read_E (nm : ByteArray) (a b c op v : Int) (w : World) :
    Calls Tryz.prog 93 #[.int .i64 op, .agg #[.string nm, .string ⟨#[69]⟩, .int .u32 a, .int .u32 b, .int .u32 c], .int .u32 v] w fun e w' => e = .returned (.agg (readRow op (rv.nums v 0 []))) ∧ Below w.heap.size w w' := by
  go_enter Tryz.func93, Tryz.ntmps93
  go_wp2_with fail
  refine (shaped_E _).mono ?_
  rintro e w2 ⟨ad, F, hF, rfl, hf, hb2⟩
  simp only [rv.shE, List.length_nil]
  obtain ⟨r0, r1, r2, hb3, hs2⟩ := three_boxes hb2
  have HR1 := bl.hid r1
  have HB3 := bl.hid hb3
  have d0 : w2.cell? ⟨w.heap.size + 1 + 1, 0, none⟩ = some (.int .i64 op) := (cell_of_row _ _ _ _ _ _ r2).trans rfl
  have d1 : w2.cell? ⟨w.heap.size + 1 + 1, 1, none⟩ = some (.int .i64 0) := (cell_of_row _ _ _ _ _ _ r2).trans rfl
  have d2 : w2.cell? ⟨w.heap.size + 1 + 1, 2, none⟩ = some (.int .i64 0) := (cell_of_row _ _ _ _ _ _ r2).trans rfl
  have d3 : w2.cell? ⟨w.heap.size + 1 + 1, 3, none⟩ = some (.int .i64 0) := (cell_of_row _ _ _ _ _ _ r2).trans rfl
  have d4 : w2.cell? ⟨w.heap.size + 1 + 1, 4, none⟩ = some (.int .i64 0) := (cell_of_row _ _ _ _ _ _ r2).trans rfl
  clear r0 r1 r2 hb3 hb2 hf hF
  have k0 : w.heap.size < w2.heap.size := by omega
  have k1 : w.heap.size + 1 < w2.heap.size := by omega
  have k2 : w.heap.size + 1 + 1 < w2.heap.size := by omega
  go_wp2
  refine wp_loop_rounds 1 ?_
  rw [rounds_succ]
  have HW : Hid (∀ o : Obj, (w2.alloc o).heap[w.heap.size + 1]? = w2.heap[w.heap.size + 1]?) := bl.hid fun o => heap_alloc_old _ _ k1
  have HW2 : Hid (∀ o : Obj, Below w.heap.size w (w2.alloc o)) := bl.hid fun o => HB3.out.alloc HB3.out.size o
  go_wp2_with (refine wpList_store_row rfl 71 _ _ rfl (w.heap.size + 1) #[.int .i64 op, .int .i64 0, .int .i64 0, .int .i64 0, .int .i64 0] rfl rfl 71 _ ((HW.out _).trans HR1.out) rv_info rfl (rv_one _ _ _ _ _) ?_)
  refine bodyPost_ret (results_cell_row rfl _ _ (w.heap.size + 1) 71 _ (0, 0) _ rfl (setRow_heap _ _ _ _ _ _ ((HW.out _).trans HR1.out)) Tryz.underlying71 rfl rv_info) rfl ?_
  exact ⟨rfl, (HW2.out _).trans ⟨rfl, rfl, rfl, by simp, fun k hk => setRow_other _ _ _ _ (by omega)⟩⟩
namespace rv
/-- may an instruction be: 0, or why not: 2 -/
def chkI (op rd rs1 rs2 im : Int) : Int := if is op then chkR (sh op.toNat) rd rs1 rs2 im else 2
/-- the word of an operation -/
def wordK (k : Nat) (rd rs1 rs2 im : Int) : Int :=
  match lt k with
  | 82 => VR (row k).a (row k).b (row k).c rd rs1 rs2 im 3
  | 73 => VI (row k).a (row k).b (row k).c rd rs1 rs2 im 3
  | 88 => VX (row k).a (row k).b (row k).c rd rs1 rs2 im 3
  | 89 => VY (row k).a (row k).b (row k).c rd rs1 rs2 im 3
  | 83 => VS (row k).a (row k).b (row k).c rd rs1 rs2 im 3
  | 66 => VB (row k).a (row k).b (row k).c rd rs1 rs2 im 3
  | 85 => VU (row k).a (row k).b (row k).c rd rs1 rs2 im 2
  | 74 => VJ (row k).a (row k).b (row k).c rd rs1 rs2 im 2
  | _ => (row k).a
/-- the numbers of a word, as of an operation -/
def numsK (k : Nat) (v : Int) : Nat → Int := nums v (sh k).low (sh k).fs
theorem sh_pos : ∀ k, k < 64 → 1 ≤ k → (row k).form = ⟨#[69]⟩ ∨ 0 < (sh k).fs.length := by decide +kernel
end rv
theorem check_any (op rd rs1 rs2 im : Int) (w : World) :
    Calls Tryz.prog 94 #[.agg #[.int .i64 op, .int .i64 rd, .int .i64 rs1, .int .i64 rs2, .int .i64 im]] w fun e w' => e = .returned (.int .i64 (rv.chkI op rd rs1 rs2 im)) ∧ Below w.heap.size w w' := by
  by_cases h : rv.is op = true
  · obtain ⟨k, rfl⟩ : ∃ k : Nat, op = k := ⟨op.toNat, by have := of_decide_eq_true h; omega⟩
    obtain ⟨h1, h2⟩ : 1 ≤ (k : Int) ∧ (k : Int) < 64 := of_decide_eq_true h
    have hrow : rv.rowI k = rv.row k := by simp [rv.rowI, h]
    have HA := fun w => of_any k w
    rw [hrow, h] at HA
    unfold rv.cells at HA
    have e : rv.chkI k rd rs1 rs2 im = rv.chkR (rv.sh k) rd rs1 rs2 im := by simp [rv.chkI, h]
    rw [e]
    rcases rv.sh_pos k (by omega) (by omega) with hf | hf
    · rw [hf] at HA
      refine (check_E _ _ _ _ _ _ _ _ _ w (bl.hid HA)).mono ?_
      rintro e w' ⟨rfl, hb⟩
      refine ⟨?_, hb⟩
      have hs : rv.sh k = rv.shE := by unfold rv.sh; rw [hf]; rfl
      rw [hs]
      refine bl.ret1 (bl.int_eq ?_)
      unfold rv.chkR rv.chkS rv.shE rv.zV
      simp only [List.any_nil, Bool.false_eq_true, if_false]
      by_cases hz : rd = 0 ∧ rs1 = 0 ∧ rs2 = 0 ∧ im = 0
      · obtain ⟨rfl, rfl, rfl, rfl⟩ := hz
        rfl
      · rw [if_neg hz, decide_eq_false hz]
        rfl
    · have hs := fun w => shaped_of k (by omega) (by omega) w
      have hg := rv.good k (by omega) (by omega)
      generalize rv.sh k = s at *
      obtain ⟨fs, bb, cc, lo, hi, st⟩ := s
      exact check_gen fs bb cc lo hi st hg hf _ _ _ _ _ _ _ _ _ _ w (bl.hid HA) (bl.hid hs)
  · have h : rv.is op = false := by simpa using h
    have HA := fun w => of_any op w
    rw [h] at HA
    have e : rv.chkI op rd rs1 rs2 im = 2 := by simp [rv.chkI, h]
    rw [e]
    generalize rv.rowI op = r at *
    unfold rv.cells at HA
    have H := bl.hid HA
    clear HA h e
    go_enter Tryz.func94, Tryz.ntmps94
    go_wp2_with fail
    refine (H.out _).mono ?_
    rintro e w1 ⟨rfl, hb⟩
    obtain ⟨r0, hb1, hs1⟩ := one_box hb
    have HB1 := bl.hid hb1
    clear hb hb1 r0
    go_wp2
    go_ret
    exact ⟨rfl, HB1.out.alloc HB1.out.size _⟩
theorem word_any (k : Nat) (h1 : k < 64) (h2 : 1 ≤ k) (op rd rs1 rs2 im : Int) (w : World) :
    Calls Tryz.prog 95 #[.agg (rv.cells (rv.row k)), .agg #[.int .i64 op, .int .i64 rd, .int .i64 rs1, .int .i64 rs2, .int .i64 im]] w fun e w' => e = .returned (.int .u32 (rv.wordK k rd rs1 rs2 im)) ∧ Below w.heap.size w w' := by
  unfold rv.wordK rv.lt rv.cells
  rcases rv.form_cases k h1 h2 with h | h | h | h | h | h | h | h | h <;> rw [h]
  · exact word_R _ _ _ _ _ _ _ _ _ w
  · exact word_I _ _ _ _ _ _ _ _ _ w
  · exact word_X _ _ _ _ _ _ _ _ _ w
  · exact word_Y _ _ _ _ _ _ _ _ _ w
  · exact word_S _ _ _ _ _ _ _ _ _ w
  · exact word_B _ _ _ _ _ _ _ _ _ w
  · exact word_U _ _ _ _ _ _ _ _ _ w
  · exact word_J _ _ _ _ _ _ _ _ _ w
  · exact word_E _ _ _ _ _ _ _ _ _ w
theorem read_any (k : Nat) (h1 : k < 64) (h2 : 1 ≤ k) (op v : Int) (v0 : 0 ≤ v) (v1 : v < 4294967296) (w : World) :
    Calls Tryz.prog 93 #[.int .i64 op, .agg (rv.cells (rv.row k)), .int .u32 v] w fun e w' => e = .returned (.agg (readRow op (rv.numsK k v))) ∧ Below w.heap.size w w' := by
  unfold rv.numsK rv.cells
  rcases rv.sh_pos k h1 h2 with hf | hf
  · have hs : rv.sh k = rv.shE := by unfold rv.sh; rw [hf]; rfl
    rw [hs, hf]
    exact read_E _ _ _ _ _ _ w
  · have hs := fun w => shaped_of k h1 h2 w
    have hg := rv.good k h1 h2
    generalize rv.sh k = s at *
    obtain ⟨fs, bb, cc, lo, hi, st⟩ := s
    exact read_gen fs bb cc lo hi st hg hf _ _ _ _ _ _ _ v0 v1 w (bl.hid hs)
end Go.Proofs.YtjjkocklpcdbkaaGreat
