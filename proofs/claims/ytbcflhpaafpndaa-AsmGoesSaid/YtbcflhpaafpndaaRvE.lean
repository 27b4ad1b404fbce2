/- word and Check at form E. -/
import Derived.Test.YtbcflhpaafpndaaRvSh
import Derived.Deep.QuietTactic
import Derived.BigQuiet
import Derived.Outline
namespace Go.Proofs.Ytbcflhpaafpndaa
open Go.RowKit
set_option linter.unusedVariables false
set_option maxRecDepth 100000 in
set_option maxHeartbeats 3200000 in
theorem word_E (nm : ByteArray) (a b c op rd rs1 rs2 im : Int) (w : World) :
    Calls Try.prog 30 #[.agg #[.string nm, .string ⟨#[69]⟩, .int .u32 a, .int .u32 b, .int .u32 c], .agg #[.int .i64 op, .int .i64 rd, .int .i64 rs1, .int .i64 rs2, .int .i64 im]] w fun e w' => e = .returned (.int .u32 a) ∧ Below w.heap.size w w' := by
  go_enter Try.func30, Try.ntmps30
  go_wp2_with fail
  refine (shaped_E _).mono ?_
  rintro e w1 ⟨ad, F, hF, rfl, hf, hb⟩
  obtain ⟨r0, r1, hb1, hs1⟩ := two_boxes hb
  have x0 : w1.cell? ⟨w.heap.size, 2, none⟩ = some (.int .u32 a) := (cell_of_row _ _ _ _ _ _ r0).trans rfl
  have x1 : w1.cell? ⟨w.heap.size, 3, none⟩ = some (.int .u32 b) := (cell_of_row _ _ _ _ _ _ r0).trans rfl
  have x2 : w1.cell? ⟨w.heap.size, 4, none⟩ = some (.int .u32 c) := (cell_of_row _ _ _ _ _ _ r0).trans rfl
  have k0 : w.heap.size < w1.heap.size := by omega
  have HB : Hid (∀ o : Obj, Below w.heap.size w (w1.alloc o)) := bl.hid fun o => hb1.alloc hb1.size o
  clear r0 r1 hb hb1 hf
  simp only [rv.shE, List.length_nil]
  go_wp2
  refine wp_loop_rounds 1 ?_
  rw [rounds_succ]
  go_wp2
  go_ret
  exact ⟨rfl, HB.out _⟩
set_option maxRecDepth 100000 in
set_option maxHeartbeats 3200000 in
theorem check_E (nm : ByteArray) (a b c op rd rs1 rs2 im : Int) (w : World)
    (HA : Hid (∀ w, Calls Try.prog 33 #[.int .i64 op] w fun e w' => e = .returned (.tuple #[.agg #[.string nm, .string ⟨#[69]⟩, .int .u32 a, .int .u32 b, .int .u32 c], .bool true]) ∧ Below w.heap.size w w')) :
    Calls Try.prog 29 #[.agg #[.int .i64 op, .int .i64 rd, .int .i64 rs1, .int .i64 rs2, .int .i64 im]] w fun e w' => e = .returned (.int .i64 (if rd = 0 ∧ rs1 = 0 ∧ rs2 = 0 ∧ im = 0 then 0 else 2)) ∧ Below w.heap.size w w' := by
  obtain ⟨R, hR⟩ : ∃ R : Int, (if rd = 0 ∧ rs1 = 0 ∧ rs2 = 0 ∧ im = 0 then 0 else 2) = R := ⟨_, rfl⟩
  rw [hR]
  have HRes := bl.hid hR
  clear hR
  go_enter Try.func29, Try.ntmps29
  go_wp2_with fail
  refine (HA.out _).mono ?_
  rintro e w1 ⟨rfl, hb⟩
  have r0 : w1.heap[w.heap.size]? = some (.cells #[.int .i64 op, .int .i64 rd, .int .i64 rs1, .int .i64 rs2, .int .i64 im] 29) := by
    rw [hb.block _ (by rw [World.size_alloc]; omega), heap_alloc_new]
  have hb1 : Below w.heap.size w w1 := ((Below.refl _ _).alloc (Nat.le_refl _) _).trans (hb.mono (by rw [World.size_alloc]; omega))
  have hs1 : w.heap.size + 1 ≤ w1.heap.size := by have := hb.size; rw [World.size_alloc] at this; exact this
  clear hb
  go_wp2_with fail
  refine (shaped_E _).mono ?_
  rintro e w2 ⟨ad, F, hF, rfl, hf, hb2⟩
  have hs2 := hb2.size
  have sA : ∀ o : Obj, (w1.alloc o).heap.size = w1.heap.size + 1 := fun o => World.size_alloc _ _
  rw [sA] at hs2
  have r2 : w2.heap[w.heap.size]? = some (.cells #[.int .i64 op, .int .i64 rd, .int .i64 rs1, .int .i64 rs2, .int .i64 im] 29) := by
    rw [hb2.block _ (by rw [sA]; omega), heap_alloc_old _ _ (by omega)]
    exact r0
  obtain ⟨c0, c1, c2, c3, c4⟩ := RvAt.of_box r2
  have hb3 : Below w.heap.size w w2 := (hb1.alloc hb1.size _).trans (hb2.mono (by rw [sA]; omega))
  have HB3 := bl.hid hb3
  clear sA r0 hf hb1 hb2 hb3 r2
  simp only [rv.shE, List.length_nil]
  have k0 : w.heap.size < w2.heap.size := by omega
  have HBE : Hid (∀ o1 o2 : Obj, Below w.heap.size w ((w2.alloc o1).alloc o2)) := bl.hid fun o1 o2 => (HB3.out.alloc HB3.out.size o1).alloc (by rw [World.size_alloc]; omega) o2
  have HBE3 : Hid (∀ o1 o2 o3 : Obj, Below w.heap.size w (((w2.alloc o1).alloc o2).alloc o3)) := bl.hid fun o1 o2 o3 => (HBE.out o1 o2).alloc (HBE.out o1 o2).size o3
  by_cases hz : rd = 0 ∧ rs1 = 0 ∧ rs2 = 0 ∧ im = 0
  · have HR : Hid (R = 0) := bl.hid (by rw [← HRes.out, if_pos hz])
    obtain ⟨rfl, rfl, rfl, rfl⟩ := hz
    go_wp2
    refine wp_loop_rounds 1 ?_
    rw [rounds_succ]
    go_wp2
    refine wp_loop_rounds 4 ?_
    rw [rounds_succ]
    go_wp2
    rw [rounds_succ]
    go_wp2
    rw [rounds_succ]
    go_wp2
    rw [rounds_succ]
    go_wp2
    go_ret
    exact ⟨by rw [HR.out]; rfl, HBE3.out _ _ _⟩
  · have HR : Hid (R = 2) := bl.hid (by rw [← HRes.out, if_neg hz])
    go_wp2
    refine wp_loop_rounds 1 ?_
    rw [rounds_succ]
    go_wp2
    all_goals
      go_ret
      exact ⟨by rw [HR.out]; rfl, HBE.out _ _⟩
end Go.Proofs.Ytbcflhpaafpndaa
