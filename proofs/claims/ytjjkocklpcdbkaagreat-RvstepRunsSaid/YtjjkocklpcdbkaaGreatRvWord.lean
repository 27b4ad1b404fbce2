/- word, at each form. -/
import Derived.Test.YtjjkocklpcdbkaaGreatGr2
import Derived.Deep.QuietTactic
import Derived.BigQuiet
namespace Go.Proofs.YtjjkocklpcdbkaaGreat
open Go.RowKit
set_option linter.unusedVariables false
set_option maxRecDepth 100000
theorem _root_.Go.RowKit.Below.drewN' {B : Nat} {w w' : World} (h : Below B w w') (n : Nat) : Below B w (w'.drewN n) := ⟨h.os, h.tape, h.output, h.size, h.block⟩
theorem kt.wp_forget {P : Program} {c : Code} {a : Act} {w : World} {Q : Exit → Act → World → Prop} (X : World → Prop) (h : X w) (k : ∀ w', X w' → c.wp P Q a w') : c.wp P Q a w := k w h
theorem kt.below_more {w w' : World} (h : Below w.heap.size w w') (o : Obj) : Below w.heap.size w (w'.alloc o) := h.alloc h.size o

/-- the word of form R, behind so many fields -/
def VR (a b c rd rs1 rs2 im : Int) : Nat → Int
  | 0 => (bits .or .u32 (bits .or .u32 a (b * 4096 % 4294967296)) (c * 33554432 % 4294967296))
  | 1 => (bits .or .u32 (bits .or .u32 (bits .or .u32 a (b * 4096 % 4294967296)) (c * 33554432 % 4294967296)) (bits .and .u32 (rd % 4294967296) 31 * 128 % 4294967296))
  | 2 => (bits .or .u32 (bits .or .u32 (bits .or .u32 (bits .or .u32 a (b * 4096 % 4294967296)) (c * 33554432 % 4294967296)) (bits .and .u32 (rd % 4294967296) 31 * 128 % 4294967296)) (bits .and .u32 (rs1 % 4294967296) 31 * 32768 % 4294967296))
  | _ => (bits .or .u32 (bits .or .u32 (bits .or .u32 (bits .or .u32 (bits .or .u32 a (b * 4096 % 4294967296)) (c * 33554432 % 4294967296)) (bits .and .u32 (rd % 4294967296) 31 * 128 % 4294967296)) (bits .and .u32 (rs1 % 4294967296) 31 * 32768 % 4294967296)) (bits .and .u32 (rs2 % 4294967296) 31 * 1048576 % 4294967296))
set_option maxRecDepth 100000 in
set_option maxHeartbeats 3200000 in
theorem word_R (nm : ByteArray) (a b c op rd rs1 rs2 im : Int) (w : World) :
    Calls Tryz.prog 95 #[.agg #[.string nm, .string ⟨#[82]⟩, .int .u32 a, .int .u32 b, .int .u32 c], .agg #[.int .i64 op, .int .i64 rd, .int .i64 rs1, .int .i64 rs2, .int .i64 im]] w fun e w' => e = .returned (.int .u32 (VR a b c rd rs1 rs2 im 3)) ∧ Below w.heap.size w w' := by
  go_enter Tryz.func95, Tryz.ntmps95
  go_wp2_with fail
  refine (shaped_R _).mono ?_
  rintro e w1 ⟨ad, F, hF, rfl, hf, hb⟩
  obtain rfl : ad = some ⟨F, 0, none⟩ := hF (by decide)
  obtain ⟨r0, r1, hb1, hs1⟩ := two_boxes hb
  have HX := bl.hid (RvAt.of_box r1)
  have x0 : w1.cell? ⟨w.heap.size, 2, none⟩ = some (.int .u32 a) := (cell_of_row _ _ _ _ _ _ r0).trans rfl
  have x1 : w1.cell? ⟨w.heap.size, 3, none⟩ = some (.int .u32 b) := (cell_of_row _ _ _ _ _ _ r0).trans rfl
  have x2 : w1.cell? ⟨w.heap.size, 4, none⟩ = some (.int .u32 c) := (cell_of_row _ _ _ _ _ _ r0).trans rfl
  have HF := bl.hid hf
  have k0 : w.heap.size < w1.heap.size := by omega
  have HL : Hid (∀ o : Obj, LoopAt (w1.alloc o) (w.heap.size + 1) F op rd rs1 rs2 im rv.shR.fs) := bl.hid fun o => LoopAt.keep ⟨HX.out, HF.out⟩ (kt.below_row _)
  have HB : Hid (∀ o : Obj, Below w.heap.size w (w1.alloc o)) := bl.hid fun o => hb1.alloc hb1.size o
  clear r0 r1 hb hb1 hf
  simp only [rv.shR, List.length_cons, List.length_nil]
  go_wp2
  go_loopw [6, 37] (fun v k wr => ∃ j : Nat, j ≤ 3 ∧ k = .int .i64 j ∧ v = .int .u32 (VR a b c rd rs1 rs2 im j) ∧ LoopAt wr (w.heap.size + 1) F op rd rs1 rs2 im rv.shR.fs ∧ Below w.heap.size w wr) (fun _ k _ => 3 - (intOf k).toNat)
  case atStart => exact ⟨0, by omega, rfl, rfl, HL.out _, HB.out _⟩
  case round =>
    obtain ⟨j, hj, rfl, rfl, hl, hbw⟩ := hrel
    clear HL HB x0 x1 x2
    have HLW := bl.hid hl
    obtain ⟨⟨c0, c1, c2, c3, c4⟩, ⟨P0, f0, g0, ⟨p0_0, q0_0, r0_0⟩, -⟩, ⟨P1, f1, g1, ⟨p1_0, q1_0, r1_0⟩, -⟩, ⟨P2, f2, g2, ⟨p2_0, q2_0, r2_0⟩, -⟩, -⟩ := hl
    simp [rv.fd, rv.fs1, rv.fs2, fnOf] at f0 g0 p0_0 q0_0 r0_0 f1 g1 p1_0 q1_0 r1_0 f2 g2 p2_0 q2_0 r2_0
    have lP0 : P0 < wr.heap.size := block_lt_of_cell p0_0
    have lP1 : P1 < wr.heap.size := block_lt_of_cell p1_0
    have lP2 : P2 < wr.heap.size := block_lt_of_cell p2_0
    have l3 : w.heap.size + 1 < wr.heap.size := block_lt_of_cell c0
    have lF : F < wr.heap.size := block_lt_of_cell f0
    have hj3 : j = 0 ∨ j = 1 ∨ j = 2 ∨ j = 3 := by omega
    rcases hj3 with rfl | rfl | rfl | rfl
    · go_wp2
      refine wp_loop_rounds 2 ?_
      rw [rounds_succ]
      go_wp2
      go_quiet (fail)
      go_wp2
      rw [rounds_succ]
      go_wp2
      go_roundw
      case rel =>
        refine ⟨1, by omega, rfl, rfl, HLW.out.keep ?_, hbw.trans (Below.mono ?_ hbw.size)⟩ <;> (repeat (first | exact Below.refl _ _ | with_reducible refine kt.below_more ?_ _ | with_reducible refine Below.drewN' ?_ _))
      case measure => simp [intOf]
    · go_wp2
      refine wp_loop_rounds 2 ?_
      rw [rounds_succ]
      go_wp2
      go_quiet (fail)
      go_wp2
      rw [rounds_succ]
      go_wp2
      go_roundw
      case rel =>
        refine ⟨2, by omega, rfl, rfl, HLW.out.keep ?_, hbw.trans (Below.mono ?_ hbw.size)⟩ <;> (repeat (first | exact Below.refl _ _ | with_reducible refine kt.below_more ?_ _ | with_reducible refine Below.drewN' ?_ _))
      case measure => simp [intOf]
    · go_wp2
      refine wp_loop_rounds 2 ?_
      rw [rounds_succ]
      go_wp2
      go_quiet (fail)
      go_wp2
      rw [rounds_succ]
      go_wp2
      go_roundw
      case rel =>
        refine ⟨3, by omega, rfl, rfl, HLW.out.keep ?_, hbw.trans (Below.mono ?_ hbw.size)⟩ <;> (repeat (first | exact Below.refl _ _ | with_reducible refine kt.below_more ?_ _ | with_reducible refine Below.drewN' ?_ _))
      case measure => simp [intOf]
    · go_wp2
      go_ret
      exact ⟨rfl, hbw⟩
/-- the word of form I, behind so many fields -/
def VI (a b c rd rs1 rs2 im : Int) : Nat → Int
  | 0 => (bits .or .u32 a (b * 4096 % 4294967296))
  | 1 => (bits .or .u32 (bits .or .u32 a (b * 4096 % 4294967296)) (bits .and .u32 (rd % 4294967296) 31 * 128 % 4294967296))
  | 2 => (bits .or .u32 (bits .or .u32 (bits .or .u32 a (b * 4096 % 4294967296)) (bits .and .u32 (rd % 4294967296) 31 * 128 % 4294967296)) (bits .and .u32 (rs1 % 4294967296) 31 * 32768 % 4294967296))
  | _ => (bits .or .u32 (bits .or .u32 (bits .or .u32 (bits .or .u32 a (b * 4096 % 4294967296)) (bits .and .u32 (rd % 4294967296) 31 * 128 % 4294967296)) (bits .and .u32 (rs1 % 4294967296) 31 * 32768 % 4294967296)) (bits .and .u32 (im % 4294967296) 4095 * 1048576 % 4294967296))
set_option maxRecDepth 100000 in
set_option maxHeartbeats 3200000 in
theorem word_I (nm : ByteArray) (a b c op rd rs1 rs2 im : Int) (w : World) :
    Calls Tryz.prog 95 #[.agg #[.string nm, .string ⟨#[73]⟩, .int .u32 a, .int .u32 b, .int .u32 c], .agg #[.int .i64 op, .int .i64 rd, .int .i64 rs1, .int .i64 rs2, .int .i64 im]] w fun e w' => e = .returned (.int .u32 (VI a b c rd rs1 rs2 im 3)) ∧ Below w.heap.size w w' := by
  go_enter Tryz.func95, Tryz.ntmps95
  go_wp2_with fail
  refine (shaped_I _).mono ?_
  rintro e w1 ⟨ad, F, hF, rfl, hf, hb⟩
  obtain rfl : ad = some ⟨F, 0, none⟩ := hF (by decide)
  obtain ⟨r0, r1, hb1, hs1⟩ := two_boxes hb
  have HX := bl.hid (RvAt.of_box r1)
  have x0 : w1.cell? ⟨w.heap.size, 2, none⟩ = some (.int .u32 a) := (cell_of_row _ _ _ _ _ _ r0).trans rfl
  have x1 : w1.cell? ⟨w.heap.size, 3, none⟩ = some (.int .u32 b) := (cell_of_row _ _ _ _ _ _ r0).trans rfl
  have x2 : w1.cell? ⟨w.heap.size, 4, none⟩ = some (.int .u32 c) := (cell_of_row _ _ _ _ _ _ r0).trans rfl
  have HF := bl.hid hf
  have k0 : w.heap.size < w1.heap.size := by omega
  have HL : Hid (∀ o : Obj, LoopAt (w1.alloc o) (w.heap.size + 1) F op rd rs1 rs2 im rv.shI.fs) := bl.hid fun o => LoopAt.keep ⟨HX.out, HF.out⟩ (kt.below_row _)
  have HB : Hid (∀ o : Obj, Below w.heap.size w (w1.alloc o)) := bl.hid fun o => hb1.alloc hb1.size o
  clear r0 r1 hb hb1 hf
  simp only [rv.shI, List.length_cons, List.length_nil]
  go_wp2
  go_loopw [6, 37] (fun v k wr => ∃ j : Nat, j ≤ 3 ∧ k = .int .i64 j ∧ v = .int .u32 (VI a b c rd rs1 rs2 im j) ∧ LoopAt wr (w.heap.size + 1) F op rd rs1 rs2 im rv.shI.fs ∧ Below w.heap.size w wr) (fun _ k _ => 3 - (intOf k).toNat)
  case atStart => exact ⟨0, by omega, rfl, rfl, HL.out _, HB.out _⟩
  case round =>
    obtain ⟨j, hj, rfl, rfl, hl, hbw⟩ := hrel
    clear HL HB x0 x1 x2
    have HLW := bl.hid hl
    obtain ⟨⟨c0, c1, c2, c3, c4⟩, ⟨P0, f0, g0, ⟨p0_0, q0_0, r0_0⟩, -⟩, ⟨P1, f1, g1, ⟨p1_0, q1_0, r1_0⟩, -⟩, ⟨P2, f2, g2, ⟨p2_0, q2_0, r2_0⟩, -⟩, -⟩ := hl
    simp [rv.fd, rv.fs1, fnOf] at f0 g0 p0_0 q0_0 r0_0 f1 g1 p1_0 q1_0 r1_0 f2 g2 p2_0 q2_0 r2_0
    have lP0 : P0 < wr.heap.size := block_lt_of_cell p0_0
    have lP1 : P1 < wr.heap.size := block_lt_of_cell p1_0
    have lP2 : P2 < wr.heap.size := block_lt_of_cell p2_0
    have l3 : w.heap.size + 1 < wr.heap.size := block_lt_of_cell c0
    have lF : F < wr.heap.size := block_lt_of_cell f0
    have hj3 : j = 0 ∨ j = 1 ∨ j = 2 ∨ j = 3 := by omega
    rcases hj3 with rfl | rfl | rfl | rfl
    · go_wp2
      refine wp_loop_rounds 2 ?_
      rw [rounds_succ]
      go_wp2
      go_quiet (fail)
      go_wp2
      rw [rounds_succ]
      go_wp2
      go_roundw
      case rel =>
        refine ⟨1, by omega, rfl, rfl, HLW.out.keep ?_, hbw.trans (Below.mono ?_ hbw.size)⟩ <;> (repeat (first | exact Below.refl _ _ | with_reducible refine kt.below_more ?_ _ | with_reducible refine Below.drewN' ?_ _))
      case measure => simp [intOf]
    · go_wp2
      refine wp_loop_rounds 2 ?_
      rw [rounds_succ]
      go_wp2
      go_quiet (fail)
      go_wp2
      rw [rounds_succ]
      go_wp2
      go_roundw
      case rel =>
        refine ⟨2, by omega, rfl, rfl, HLW.out.keep ?_, hbw.trans (Below.mono ?_ hbw.size)⟩ <;> (repeat (first | exact Below.refl _ _ | with_reducible refine kt.below_more ?_ _ | with_reducible refine Below.drewN' ?_ _))
      case measure => simp [intOf]
    · go_wp2
      refine wp_loop_rounds 2 ?_
      rw [rounds_succ]
      go_wp2
      go_quiet (fail)
      go_wp2
      rw [rounds_succ]
      go_wp2
      go_roundw
      case rel =>
        refine ⟨3, by omega, rfl, rfl, HLW.out.keep ?_, hbw.trans (Below.mono ?_ hbw.size)⟩ <;> (repeat (first | exact Below.refl _ _ | with_reducible refine kt.below_more ?_ _ | with_reducible refine Below.drewN' ?_ _))
      case measure => simp [intOf]
    · go_wp2
      go_ret
      exact ⟨rfl, hbw⟩
/-- the word of form X, behind so many fields -/
def VX (a b c rd rs1 rs2 im : Int) : Nat → Int
  | 0 => (bits .or .u32 (bits .or .u32 a (b * 4096 % 4294967296)) (c * 67108864 % 4294967296))
  | 1 => (bits .or .u32 (bits .or .u32 (bits .or .u32 a (b * 4096 % 4294967296)) (c * 67108864 % 4294967296)) (bits .and .u32 (rd % 4294967296) 31 * 128 % 4294967296))
  | 2 => (bits .or .u32 (bits .or .u32 (bits .or .u32 (bits .or .u32 a (b * 4096 % 4294967296)) (c * 67108864 % 4294967296)) (bits .and .u32 (rd % 4294967296) 31 * 128 % 4294967296)) (bits .and .u32 (rs1 % 4294967296) 31 * 32768 % 4294967296))
  | _ => (bits .or .u32 (bits .or .u32 (bits .or .u32 (bits .or .u32 (bits .or .u32 a (b * 4096 % 4294967296)) (c * 67108864 % 4294967296)) (bits .and .u32 (rd % 4294967296) 31 * 128 % 4294967296)) (bits .and .u32 (rs1 % 4294967296) 31 * 32768 % 4294967296)) (bits .and .u32 (im % 4294967296) 63 * 1048576 % 4294967296))
set_option maxRecDepth 100000 in
set_option maxHeartbeats 3200000 in
theorem word_X (nm : ByteArray) (a b c op rd rs1 rs2 im : Int) (w : World) :
    Calls Tryz.prog 95 #[.agg #[.string nm, .string ⟨#[88]⟩, .int .u32 a, .int .u32 b, .int .u32 c], .agg #[.int .i64 op, .int .i64 rd, .int .i64 rs1, .int .i64 rs2, .int .i64 im]] w fun e w' => e = .returned (.int .u32 (VX a b c rd rs1 rs2 im 3)) ∧ Below w.heap.size w w' := by
  go_enter Tryz.func95, Tryz.ntmps95
  go_wp2_with fail
  refine (shaped_X _).mono ?_
  rintro e w1 ⟨ad, F, hF, rfl, hf, hb⟩
  obtain rfl : ad = some ⟨F, 0, none⟩ := hF (by decide)
  obtain ⟨r0, r1, hb1, hs1⟩ := two_boxes hb
  have HX := bl.hid (RvAt.of_box r1)
  have x0 : w1.cell? ⟨w.heap.size, 2, none⟩ = some (.int .u32 a) := (cell_of_row _ _ _ _ _ _ r0).trans rfl
  have x1 : w1.cell? ⟨w.heap.size, 3, none⟩ = some (.int .u32 b) := (cell_of_row _ _ _ _ _ _ r0).trans rfl
  have x2 : w1.cell? ⟨w.heap.size, 4, none⟩ = some (.int .u32 c) := (cell_of_row _ _ _ _ _ _ r0).trans rfl
  have HF := bl.hid hf
  have k0 : w.heap.size < w1.heap.size := by omega
  have HL : Hid (∀ o : Obj, LoopAt (w1.alloc o) (w.heap.size + 1) F op rd rs1 rs2 im rv.shX.fs) := bl.hid fun o => LoopAt.keep ⟨HX.out, HF.out⟩ (kt.below_row _)
  have HB : Hid (∀ o : Obj, Below w.heap.size w (w1.alloc o)) := bl.hid fun o => hb1.alloc hb1.size o
  clear r0 r1 hb hb1 hf
  simp only [rv.shX, List.length_cons, List.length_nil]
  go_wp2
  go_loopw [6, 37] (fun v k wr => ∃ j : Nat, j ≤ 3 ∧ k = .int .i64 j ∧ v = .int .u32 (VX a b c rd rs1 rs2 im j) ∧ LoopAt wr (w.heap.size + 1) F op rd rs1 rs2 im rv.shX.fs ∧ Below w.heap.size w wr) (fun _ k _ => 3 - (intOf k).toNat)
  case atStart => exact ⟨0, by omega, rfl, rfl, HL.out _, HB.out _⟩
  case round =>
    obtain ⟨j, hj, rfl, rfl, hl, hbw⟩ := hrel
    clear HL HB x0 x1 x2
    have HLW := bl.hid hl
    obtain ⟨⟨c0, c1, c2, c3, c4⟩, ⟨P0, f0, g0, ⟨p0_0, q0_0, r0_0⟩, -⟩, ⟨P1, f1, g1, ⟨p1_0, q1_0, r1_0⟩, -⟩, ⟨P2, f2, g2, ⟨p2_0, q2_0, r2_0⟩, -⟩, -⟩ := hl
    simp [rv.fd, rv.fs1, fnOf] at f0 g0 p0_0 q0_0 r0_0 f1 g1 p1_0 q1_0 r1_0 f2 g2 p2_0 q2_0 r2_0
    have lP0 : P0 < wr.heap.size := block_lt_of_cell p0_0
    have lP1 : P1 < wr.heap.size := block_lt_of_cell p1_0
    have lP2 : P2 < wr.heap.size := block_lt_of_cell p2_0
    have l3 : w.heap.size + 1 < wr.heap.size := block_lt_of_cell c0
    have lF : F < wr.heap.size := block_lt_of_cell f0
    have hj3 : j = 0 ∨ j = 1 ∨ j = 2 ∨ j = 3 := by omega
    rcases hj3 with rfl | rfl | rfl | rfl
    · go_wp2
      refine wp_loop_rounds 2 ?_
      rw [rounds_succ]
      go_wp2
      go_quiet (fail)
      go_wp2
      rw [rounds_succ]
      go_wp2
      go_roundw
      case rel =>
        refine ⟨1, by omega, rfl, rfl, HLW.out.keep ?_, hbw.trans (Below.mono ?_ hbw.size)⟩ <;> (repeat (first | exact Below.refl _ _ | with_reducible refine kt.below_more ?_ _ | with_reducible refine Below.drewN' ?_ _))
      case measure => simp [intOf]
    · go_wp2
      refine wp_loop_rounds 2 ?_
      rw [rounds_succ]
      go_wp2
      go_quiet (fail)
      go_wp2
      rw [rounds_succ]
      go_wp2
      go_roundw
      case rel =>
        refine ⟨2, by omega, rfl, rfl, HLW.out.keep ?_, hbw.trans (Below.mono ?_ hbw.size)⟩ <;> (repeat (first | exact Below.refl _ _ | with_reducible refine kt.below_more ?_ _ | with_reducible refine Below.drewN' ?_ _))
      case measure => simp [intOf]
    · go_wp2
      refine wp_loop_rounds 2 ?_
      rw [rounds_succ]
      go_wp2
      go_quiet (fail)
      go_wp2
      rw [rounds_succ]
      go_wp2
      go_roundw
      case rel =>
        refine ⟨3, by omega, rfl, rfl, HLW.out.keep ?_, hbw.trans (Below.mono ?_ hbw.size)⟩ <;> (repeat (first | exact Below.refl _ _ | with_reducible refine kt.below_more ?_ _ | with_reducible refine Below.drewN' ?_ _))
      case measure => simp [intOf]
    · go_wp2
      go_ret
      exact ⟨rfl, hbw⟩
/-- the word of form Y, behind so many fields -/
def VY (a b c rd rs1 rs2 im : Int) : Nat → Int
  | 0 => (bits .or .u32 (bits .or .u32 a (b * 4096 % 4294967296)) (c * 33554432 % 4294967296))
  | 1 => (bits .or .u32 (bits .or .u32 (bits .or .u32 a (b * 4096 % 4294967296)) (c * 33554432 % 4294967296)) (bits .and .u32 (rd % 4294967296) 31 * 128 % 4294967296))
  | 2 => (bits .or .u32 (bits .or .u32 (bits .or .u32 (bits .or .u32 a (b * 4096 % 4294967296)) (c * 33554432 % 4294967296)) (bits .and .u32 (rd % 4294967296) 31 * 128 % 4294967296)) (bits .and .u32 (rs1 % 4294967296) 31 * 32768 % 4294967296))
  | _ => (bits .or .u32 (bits .or .u32 (bits .or .u32 (bits .or .u32 (bits .or .u32 a (b * 4096 % 4294967296)) (c * 33554432 % 4294967296)) (bits .and .u32 (rd % 4294967296) 31 * 128 % 4294967296)) (bits .and .u32 (rs1 % 4294967296) 31 * 32768 % 4294967296)) (bits .and .u32 (im % 4294967296) 31 * 1048576 % 4294967296))
set_option maxRecDepth 100000 in
set_option maxHeartbeats 3200000 in
theorem word_Y (nm : ByteArray) (a b c op rd rs1 rs2 im : Int) (w : World) :
    Calls Tryz.prog 95 #[.agg #[.string nm, .string ⟨#[89]⟩, .int .u32 a, .int .u32 b, .int .u32 c], .agg #[.int .i64 op, .int .i64 rd, .int .i64 rs1, .int .i64 rs2, .int .i64 im]] w fun e w' => e = .returned (.int .u32 (VY a b c rd rs1 rs2 im 3)) ∧ Below w.heap.size w w' := by
  go_enter Tryz.func95, Tryz.ntmps95
  go_wp2_with fail
  refine (shaped_Y _).mono ?_
  rintro e w1 ⟨ad, F, hF, rfl, hf, hb⟩
  obtain rfl : ad = some ⟨F, 0, none⟩ := hF (by decide)
  obtain ⟨r0, r1, hb1, hs1⟩ := two_boxes hb
  have HX := bl.hid (RvAt.of_box r1)
  have x0 : w1.cell? ⟨w.heap.size, 2, none⟩ = some (.int .u32 a) := (cell_of_row _ _ _ _ _ _ r0).trans rfl
  have x1 : w1.cell? ⟨w.heap.size, 3, none⟩ = some (.int .u32 b) := (cell_of_row _ _ _ _ _ _ r0).trans rfl
  have x2 : w1.cell? ⟨w.heap.size, 4, none⟩ = some (.int .u32 c) := (cell_of_row _ _ _ _ _ _ r0).trans rfl
  have HF := bl.hid hf
  have k0 : w.heap.size < w1.heap.size := by omega
  have HL : Hid (∀ o : Obj, LoopAt (w1.alloc o) (w.heap.size + 1) F op rd rs1 rs2 im rv.shY.fs) := bl.hid fun o => LoopAt.keep ⟨HX.out, HF.out⟩ (kt.below_row _)
  have HB : Hid (∀ o : Obj, Below w.heap.size w (w1.alloc o)) := bl.hid fun o => hb1.alloc hb1.size o
  clear r0 r1 hb hb1 hf
  simp only [rv.shY, List.length_cons, List.length_nil]
  go_wp2
  go_loopw [6, 37] (fun v k wr => ∃ j : Nat, j ≤ 3 ∧ k = .int .i64 j ∧ v = .int .u32 (VY a b c rd rs1 rs2 im j) ∧ LoopAt wr (w.heap.size + 1) F op rd rs1 rs2 im rv.shY.fs ∧ Below w.heap.size w wr) (fun _ k _ => 3 - (intOf k).toNat)
  case atStart => exact ⟨0, by omega, rfl, rfl, HL.out _, HB.out _⟩
  case round =>
    obtain ⟨j, hj, rfl, rfl, hl, hbw⟩ := hrel
    clear HL HB x0 x1 x2
    have HLW := bl.hid hl
    obtain ⟨⟨c0, c1, c2, c3, c4⟩, ⟨P0, f0, g0, ⟨p0_0, q0_0, r0_0⟩, -⟩, ⟨P1, f1, g1, ⟨p1_0, q1_0, r1_0⟩, -⟩, ⟨P2, f2, g2, ⟨p2_0, q2_0, r2_0⟩, -⟩, -⟩ := hl
    simp [rv.fd, rv.fs1, fnOf] at f0 g0 p0_0 q0_0 r0_0 f1 g1 p1_0 q1_0 r1_0 f2 g2 p2_0 q2_0 r2_0
    have lP0 : P0 < wr.heap.size := block_lt_of_cell p0_0
    have lP1 : P1 < wr.heap.size := block_lt_of_cell p1_0
    have lP2 : P2 < wr.heap.size := block_lt_of_cell p2_0
    have l3 : w.heap.size + 1 < wr.heap.size := block_lt_of_cell c0
    have lF : F < wr.heap.size := block_lt_of_cell f0
    have hj3 : j = 0 ∨ j = 1 ∨ j = 2 ∨ j = 3 := by omega
    rcases hj3 with rfl | rfl | rfl | rfl
    · go_wp2
      refine wp_loop_rounds 2 ?_
      rw [rounds_succ]
      go_wp2
      go_quiet (fail)
      go_wp2
      rw [rounds_succ]
      go_wp2
      go_roundw
      case rel =>
        refine ⟨1, by omega, rfl, rfl, HLW.out.keep ?_, hbw.trans (Below.mono ?_ hbw.size)⟩ <;> (repeat (first | exact Below.refl _ _ | with_reducible refine kt.below_more ?_ _ | with_reducible refine Below.drewN' ?_ _))
      case measure => simp [intOf]
    · go_wp2
      refine wp_loop_rounds 2 ?_
      rw [rounds_succ]
      go_wp2
      go_quiet (fail)
      go_wp2
      rw [rounds_succ]
      go_wp2
      go_roundw
      case rel =>
        refine ⟨2, by omega, rfl, rfl, HLW.out.keep ?_, hbw.trans (Below.mono ?_ hbw.size)⟩ <;> (repeat (first | exact Below.refl _ _ | with_reducible refine kt.below_more ?_ _ | with_reducible refine Below.drewN' ?_ _))
      case measure => simp [intOf]
    · go_wp2
      refine wp_loop_rounds 2 ?_
      rw [rounds_succ]
      go_wp2
      go_quiet (fail)
      go_wp2
      rw [rounds_succ]
      go_wp2
      go_roundw
      case rel =>
        refine ⟨3, by omega, rfl, rfl, HLW.out.keep ?_, hbw.trans (Below.mono ?_ hbw.size)⟩ <;> (repeat (first | exact Below.refl _ _ | with_reducible refine kt.below_more ?_ _ | with_reducible refine Below.drewN' ?_ _))
      case measure => simp [intOf]
    · go_wp2
      go_ret
      exact ⟨rfl, hbw⟩
/-- the word of form S, behind so many fields -/
def VS (a b c rd rs1 rs2 im : Int) : Nat → Int
  | 0 => (bits .or .u32 a (b * 4096 % 4294967296))
  | 1 => (bits .or .u32 (bits .or .u32 a (b * 4096 % 4294967296)) (bits .and .u32 (rs1 % 4294967296) 31 * 32768 % 4294967296))
  | 2 => (bits .or .u32 (bits .or .u32 (bits .or .u32 a (b * 4096 % 4294967296)) (bits .and .u32 (rs1 % 4294967296) 31 * 32768 % 4294967296)) (bits .and .u32 (rs2 % 4294967296) 31 * 1048576 % 4294967296))
  | _ => (bits .or .u32 (bits .or .u32 (bits .or .u32 (bits .or .u32 (bits .or .u32 a (b * 4096 % 4294967296)) (bits .and .u32 (rs1 % 4294967296) 31 * 32768 % 4294967296)) (bits .and .u32 (rs2 % 4294967296) 31 * 1048576 % 4294967296)) (bits .and .u32 (im % 4294967296) 31 * 128 % 4294967296)) (bits .and .u32 (im % 4294967296 / 32) 127 * 33554432 % 4294967296))
set_option maxRecDepth 100000 in
set_option maxHeartbeats 3200000 in
theorem word_S (nm : ByteArray) (a b c op rd rs1 rs2 im : Int) (w : World) :
    Calls Tryz.prog 95 #[.agg #[.string nm, .string ⟨#[83]⟩, .int .u32 a, .int .u32 b, .int .u32 c], .agg #[.int .i64 op, .int .i64 rd, .int .i64 rs1, .int .i64 rs2, .int .i64 im]] w fun e w' => e = .returned (.int .u32 (VS a b c rd rs1 rs2 im 3)) ∧ Below w.heap.size w w' := by
  go_enter Tryz.func95, Tryz.ntmps95
  go_wp2_with fail
  refine (shaped_S _).mono ?_
  rintro e w1 ⟨ad, F, hF, rfl, hf, hb⟩
  obtain rfl : ad = some ⟨F, 0, none⟩ := hF (by decide)
  obtain ⟨r0, r1, hb1, hs1⟩ := two_boxes hb
  have HX := bl.hid (RvAt.of_box r1)
  have x0 : w1.cell? ⟨w.heap.size, 2, none⟩ = some (.int .u32 a) := (cell_of_row _ _ _ _ _ _ r0).trans rfl
  have x1 : w1.cell? ⟨w.heap.size, 3, none⟩ = some (.int .u32 b) := (cell_of_row _ _ _ _ _ _ r0).trans rfl
  have x2 : w1.cell? ⟨w.heap.size, 4, none⟩ = some (.int .u32 c) := (cell_of_row _ _ _ _ _ _ r0).trans rfl
  have HF := bl.hid hf
  have k0 : w.heap.size < w1.heap.size := by omega
  have HL : Hid (∀ o : Obj, LoopAt (w1.alloc o) (w.heap.size + 1) F op rd rs1 rs2 im rv.shS.fs) := bl.hid fun o => LoopAt.keep ⟨HX.out, HF.out⟩ (kt.below_row _)
  have HB : Hid (∀ o : Obj, Below w.heap.size w (w1.alloc o)) := bl.hid fun o => hb1.alloc hb1.size o
  clear r0 r1 hb hb1 hf
  simp only [rv.shS, List.length_cons, List.length_nil]
  go_wp2
  go_loopw [6, 37] (fun v k wr => ∃ j : Nat, j ≤ 3 ∧ k = .int .i64 j ∧ v = .int .u32 (VS a b c rd rs1 rs2 im j) ∧ LoopAt wr (w.heap.size + 1) F op rd rs1 rs2 im rv.shS.fs ∧ Below w.heap.size w wr) (fun _ k _ => 3 - (intOf k).toNat)
  case atStart => exact ⟨0, by omega, rfl, rfl, HL.out _, HB.out _⟩
  case round =>
    obtain ⟨j, hj, rfl, rfl, hl, hbw⟩ := hrel
    clear HL HB x0 x1 x2
    have HLW := bl.hid hl
    obtain ⟨⟨c0, c1, c2, c3, c4⟩, ⟨P0, f0, g0, ⟨p0_0, q0_0, r0_0⟩, -⟩, ⟨P1, f1, g1, ⟨p1_0, q1_0, r1_0⟩, -⟩, ⟨P2, f2, g2, ⟨p2_0, q2_0, r2_0⟩, ⟨p2_1, q2_1, r2_1⟩, -⟩, -⟩ := hl
    simp [rv.fs1, rv.fs2, fnOf] at f0 g0 p0_0 q0_0 r0_0 f1 g1 p1_0 q1_0 r1_0 f2 g2 p2_0 q2_0 r2_0 p2_1 q2_1 r2_1
    have lP0 : P0 < wr.heap.size := block_lt_of_cell p0_0
    have lP1 : P1 < wr.heap.size := block_lt_of_cell p1_0
    have lP2 : P2 < wr.heap.size := block_lt_of_cell p2_0
    have l3 : w.heap.size + 1 < wr.heap.size := block_lt_of_cell c0
    have lF : F < wr.heap.size := block_lt_of_cell f0
    have hj3 : j = 0 ∨ j = 1 ∨ j = 2 ∨ j = 3 := by omega
    rcases hj3 with rfl | rfl | rfl | rfl
    · go_wp2
      refine wp_loop_rounds 2 ?_
      rw [rounds_succ]
      go_wp2
      go_quiet (fail)
      go_wp2
      rw [rounds_succ]
      go_wp2
      go_roundw
      case rel =>
        refine ⟨1, by omega, rfl, rfl, HLW.out.keep ?_, hbw.trans (Below.mono ?_ hbw.size)⟩ <;> (repeat (first | exact Below.refl _ _ | with_reducible refine kt.below_more ?_ _ | with_reducible refine Below.drewN' ?_ _))
      case measure => simp [intOf]
    · go_wp2
      refine wp_loop_rounds 2 ?_
      rw [rounds_succ]
      go_wp2
      go_quiet (fail)
      go_wp2
      rw [rounds_succ]
      go_wp2
      go_roundw
      case rel =>
        refine ⟨2, by omega, rfl, rfl, HLW.out.keep ?_, hbw.trans (Below.mono ?_ hbw.size)⟩ <;> (repeat (first | exact Below.refl _ _ | with_reducible refine kt.below_more ?_ _ | with_reducible refine Below.drewN' ?_ _))
      case measure => simp [intOf]
    · go_wp2
      refine wp_loop_rounds 3 ?_
      rw [rounds_succ]
      go_wp2
      go_quiet (fail)
      go_wp2
      rw [rounds_succ]
      go_wp2
      go_quiet (fail)
      go_wp2
      rw [rounds_succ]
      go_wp2
      go_roundw
      case rel =>
        refine ⟨3, by omega, rfl, rfl, HLW.out.keep ?_, hbw.trans (Below.mono ?_ hbw.size)⟩ <;> (repeat (first | exact Below.refl _ _ | with_reducible refine kt.below_more ?_ _ | with_reducible refine Below.drewN' ?_ _))
      case measure => simp [intOf]
    · go_wp2
      go_ret
      exact ⟨rfl, hbw⟩
/-- the word of form B, behind so many fields -/
def VB (a b c rd rs1 rs2 im : Int) : Nat → Int
  | 0 => (bits .or .u32 a (b * 4096 % 4294967296))
  | 1 => (bits .or .u32 (bits .or .u32 a (b * 4096 % 4294967296)) (bits .and .u32 (rs1 % 4294967296) 31 * 32768 % 4294967296))
  | 2 => (bits .or .u32 (bits .or .u32 (bits .or .u32 a (b * 4096 % 4294967296)) (bits .and .u32 (rs1 % 4294967296) 31 * 32768 % 4294967296)) (bits .and .u32 (rs2 % 4294967296) 31 * 1048576 % 4294967296))
  | _ => (bits .or .u32 (bits .or .u32 (bits .or .u32 (bits .or .u32 (bits .or .u32 (bits .or .u32 (bits .or .u32 a (b * 4096 % 4294967296)) (bits .and .u32 (rs1 % 4294967296) 31 * 32768 % 4294967296)) (bits .and .u32 (rs2 % 4294967296) 31 * 1048576 % 4294967296)) (bits .and .u32 (im % 4294967296 / 2048) 1 * 128 % 4294967296)) (bits .and .u32 (im % 4294967296 / 2) 15 * 256 % 4294967296)) (bits .and .u32 (im % 4294967296 / 32) 63 * 33554432 % 4294967296)) (bits .and .u32 (im % 4294967296 / 4096) 1 * 2147483648 % 4294967296))
set_option maxRecDepth 100000 in
set_option maxHeartbeats 3200000 in
theorem word_B (nm : ByteArray) (a b c op rd rs1 rs2 im : Int) (w : World) :
    Calls Tryz.prog 95 #[.agg #[.string nm, .string ⟨#[66]⟩, .int .u32 a, .int .u32 b, .int .u32 c], .agg #[.int .i64 op, .int .i64 rd, .int .i64 rs1, .int .i64 rs2, .int .i64 im]] w fun e w' => e = .returned (.int .u32 (VB a b c rd rs1 rs2 im 3)) ∧ Below w.heap.size w w' := by
  go_enter Tryz.func95, Tryz.ntmps95
  go_wp2_with fail
  refine (shaped_B _).mono ?_
  rintro e w1 ⟨ad, F, hF, rfl, hf, hb⟩
  obtain rfl : ad = some ⟨F, 0, none⟩ := hF (by decide)
  obtain ⟨r0, r1, hb1, hs1⟩ := two_boxes hb
  have HX := bl.hid (RvAt.of_box r1)
  have x0 : w1.cell? ⟨w.heap.size, 2, none⟩ = some (.int .u32 a) := (cell_of_row _ _ _ _ _ _ r0).trans rfl
  have x1 : w1.cell? ⟨w.heap.size, 3, none⟩ = some (.int .u32 b) := (cell_of_row _ _ _ _ _ _ r0).trans rfl
  have x2 : w1.cell? ⟨w.heap.size, 4, none⟩ = some (.int .u32 c) := (cell_of_row _ _ _ _ _ _ r0).trans rfl
  have HF := bl.hid hf
  have k0 : w.heap.size < w1.heap.size := by omega
  have HL : Hid (∀ o : Obj, LoopAt (w1.alloc o) (w.heap.size + 1) F op rd rs1 rs2 im rv.shB.fs) := bl.hid fun o => LoopAt.keep ⟨HX.out, HF.out⟩ (kt.below_row _)
  have HB : Hid (∀ o : Obj, Below w.heap.size w (w1.alloc o)) := bl.hid fun o => hb1.alloc hb1.size o
  clear r0 r1 hb hb1 hf
  simp only [rv.shB, List.length_cons, List.length_nil]
  go_wp2
  go_loopw [6, 37] (fun v k wr => ∃ j : Nat, j ≤ 3 ∧ k = .int .i64 j ∧ v = .int .u32 (VB a b c rd rs1 rs2 im j) ∧ LoopAt wr (w.heap.size + 1) F op rd rs1 rs2 im rv.shB.fs ∧ Below w.heap.size w wr) (fun _ k _ => 3 - (intOf k).toNat)
  case atStart => exact ⟨0, by omega, rfl, rfl, HL.out _, HB.out _⟩
  case round =>
    obtain ⟨j, hj, rfl, rfl, hl, hbw⟩ := hrel
    clear HL HB x0 x1 x2
    have HLW := bl.hid hl
    obtain ⟨⟨c0, c1, c2, c3, c4⟩, ⟨P0, f0, g0, ⟨p0_0, q0_0, r0_0⟩, -⟩, ⟨P1, f1, g1, ⟨p1_0, q1_0, r1_0⟩, -⟩, ⟨P2, f2, g2, ⟨p2_0, q2_0, r2_0⟩, ⟨p2_1, q2_1, r2_1⟩, ⟨p2_2, q2_2, r2_2⟩, ⟨p2_3, q2_3, r2_3⟩, -⟩, -⟩ := hl
    simp [rv.fs1, rv.fs2, fnOf] at f0 g0 p0_0 q0_0 r0_0 f1 g1 p1_0 q1_0 r1_0 f2 g2 p2_0 q2_0 r2_0 p2_1 q2_1 r2_1 p2_2 q2_2 r2_2 p2_3 q2_3 r2_3
    have lP0 : P0 < wr.heap.size := block_lt_of_cell p0_0
    have lP1 : P1 < wr.heap.size := block_lt_of_cell p1_0
    have lP2 : P2 < wr.heap.size := block_lt_of_cell p2_0
    have l3 : w.heap.size + 1 < wr.heap.size := block_lt_of_cell c0
    have lF : F < wr.heap.size := block_lt_of_cell f0
    have hj3 : j = 0 ∨ j = 1 ∨ j = 2 ∨ j = 3 := by omega
    rcases hj3 with rfl | rfl | rfl | rfl
    · go_wp2
      refine wp_loop_rounds 2 ?_
      rw [rounds_succ]
      go_wp2
      go_quiet (fail)
      go_wp2
      rw [rounds_succ]
      go_wp2
      go_roundw
      case rel =>
        refine ⟨1, by omega, rfl, rfl, HLW.out.keep ?_, hbw.trans (Below.mono ?_ hbw.size)⟩ <;> (repeat (first | exact Below.refl _ _ | with_reducible refine kt.below_more ?_ _ | with_reducible refine Below.drewN' ?_ _))
      case measure => simp [intOf]
    · go_wp2
      refine wp_loop_rounds 2 ?_
      rw [rounds_succ]
      go_wp2
      go_quiet (fail)
      go_wp2
      rw [rounds_succ]
      go_wp2
      go_roundw
      case rel =>
        refine ⟨2, by omega, rfl, rfl, HLW.out.keep ?_, hbw.trans (Below.mono ?_ hbw.size)⟩ <;> (repeat (first | exact Below.refl _ _ | with_reducible refine kt.below_more ?_ _ | with_reducible refine Below.drewN' ?_ _))
      case measure => simp [intOf]
    · go_wp2
      refine wp_loop_rounds 5 ?_
      rw [rounds_succ]
      go_wp2
      go_quiet (fail)
      go_wp2
      rw [rounds_succ]
      go_wp2
      go_quiet (fail)
      go_wp2
      rw [rounds_succ]
      refine kt.wp_forget (fun wf => LoopAt wf (w.heap.size + 1) F op rd rs1 rs2 im rv.shB.fs ∧ Below w.heap.size w wf ∧ Below wr.heap.size wr wf) ⟨HLW.out.keep ?_, hbw.trans (Below.mono ?_ hbw.size), ?_⟩ ?_ <;> (try (repeat (first | exact Below.refl _ _ | with_reducible refine kt.below_more ?_ _ | with_reducible refine Below.drewN' ?_ _)))
      rintro wf ⟨hlf, hbw2, hbz⟩
      have HLW2 := bl.hid hlf
      have zp0 := (hbz.cell (p := ⟨P2, 0, none⟩) lP2).trans p2_0
      have zq0 := (hbz.cell (p := ⟨P2, 1, none⟩) lP2).trans q2_0
      have zr0 := (hbz.cell (p := ⟨P2, 2, none⟩) lP2).trans r2_0
      have zp1 := (hbz.cell (p := ⟨P2, 3, none⟩) lP2).trans p2_1
      have zq1 := (hbz.cell (p := ⟨P2, 4, none⟩) lP2).trans q2_1
      have zr1 := (hbz.cell (p := ⟨P2, 5, none⟩) lP2).trans r2_1
      have zp2 := (hbz.cell (p := ⟨P2, 6, none⟩) lP2).trans p2_2
      have zq2 := (hbz.cell (p := ⟨P2, 7, none⟩) lP2).trans q2_2
      have zr2 := (hbz.cell (p := ⟨P2, 8, none⟩) lP2).trans r2_2
      have zp3 := (hbz.cell (p := ⟨P2, 9, none⟩) lP2).trans p2_3
      have zq3 := (hbz.cell (p := ⟨P2, 10, none⟩) lP2).trans q2_3
      have zr3 := (hbz.cell (p := ⟨P2, 11, none⟩) lP2).trans r2_3
      have lPz : P2 < wf.heap.size := block_lt_of_cell zp0
      clear c0 c1 c2 c3 c4 l3 hlf hbz f0 g0 p0_0 q0_0 r0_0 f1 g1 p1_0 q1_0 r1_0 f2 g2 p2_0 q2_0 r2_0 p2_1 q2_1 r2_1 p2_2 q2_2 r2_2 p2_3 q2_3 r2_3 lP0 lP1 lP2
      go_wp2
      go_quiet (fail)
      go_wp2
      rw [rounds_succ]
      go_wp2
      go_quiet (fail)
      go_wp2
      rw [rounds_succ]
      go_wp2
      go_roundw
      case rel =>
        refine ⟨3, by omega, rfl, rfl, HLW2.out.keep ?_, hbw2.trans (Below.mono ?_ hbw2.size)⟩ <;> (repeat (first | exact Below.refl _ _ | with_reducible refine kt.below_more ?_ _ | with_reducible refine Below.drewN' ?_ _))
      case measure => simp [intOf]
    · go_wp2
      go_ret
      exact ⟨rfl, hbw⟩
/-- the word of form U, behind so many fields -/
def VU (a b c rd rs1 rs2 im : Int) : Nat → Int
  | 0 => a
  | 1 => (bits .or .u32 a (bits .and .u32 (rd % 4294967296) 31 * 128 % 4294967296))
  | _ => (bits .or .u32 (bits .or .u32 a (bits .and .u32 (rd % 4294967296) 31 * 128 % 4294967296)) (bits .and .u32 (im % 4294967296) 1048575 * 4096 % 4294967296))
set_option maxRecDepth 100000 in
set_option maxHeartbeats 3200000 in
theorem word_U (nm : ByteArray) (a b c op rd rs1 rs2 im : Int) (w : World) :
    Calls Tryz.prog 95 #[.agg #[.string nm, .string ⟨#[85]⟩, .int .u32 a, .int .u32 b, .int .u32 c], .agg #[.int .i64 op, .int .i64 rd, .int .i64 rs1, .int .i64 rs2, .int .i64 im]] w fun e w' => e = .returned (.int .u32 (VU a b c rd rs1 rs2 im 2)) ∧ Below w.heap.size w w' := by
  go_enter Tryz.func95, Tryz.ntmps95
  go_wp2_with fail
  refine (shaped_U _).mono ?_
  rintro e w1 ⟨ad, F, hF, rfl, hf, hb⟩
  obtain rfl : ad = some ⟨F, 0, none⟩ := hF (by decide)
  obtain ⟨r0, r1, hb1, hs1⟩ := two_boxes hb
  have HX := bl.hid (RvAt.of_box r1)
  have x0 : w1.cell? ⟨w.heap.size, 2, none⟩ = some (.int .u32 a) := (cell_of_row _ _ _ _ _ _ r0).trans rfl
  have x1 : w1.cell? ⟨w.heap.size, 3, none⟩ = some (.int .u32 b) := (cell_of_row _ _ _ _ _ _ r0).trans rfl
  have x2 : w1.cell? ⟨w.heap.size, 4, none⟩ = some (.int .u32 c) := (cell_of_row _ _ _ _ _ _ r0).trans rfl
  have HF := bl.hid hf
  have k0 : w.heap.size < w1.heap.size := by omega
  have HL : Hid (∀ o : Obj, LoopAt (w1.alloc o) (w.heap.size + 1) F op rd rs1 rs2 im rv.shU.fs) := bl.hid fun o => LoopAt.keep ⟨HX.out, HF.out⟩ (kt.below_row _)
  have HB : Hid (∀ o : Obj, Below w.heap.size w (w1.alloc o)) := bl.hid fun o => hb1.alloc hb1.size o
  clear r0 r1 hb hb1 hf
  simp only [rv.shU, List.length_cons, List.length_nil]
  go_wp2
  go_loopw [6, 37] (fun v k wr => ∃ j : Nat, j ≤ 2 ∧ k = .int .i64 j ∧ v = .int .u32 (VU a b c rd rs1 rs2 im j) ∧ LoopAt wr (w.heap.size + 1) F op rd rs1 rs2 im rv.shU.fs ∧ Below w.heap.size w wr) (fun _ k _ => 2 - (intOf k).toNat)
  case atStart => exact ⟨0, by omega, rfl, rfl, HL.out _, HB.out _⟩
  case round =>
    obtain ⟨j, hj, rfl, rfl, hl, hbw⟩ := hrel
    clear HL HB x0 x1 x2
    have HLW := bl.hid hl
    obtain ⟨⟨c0, c1, c2, c3, c4⟩, ⟨P0, f0, g0, ⟨p0_0, q0_0, r0_0⟩, -⟩, ⟨P1, f1, g1, ⟨p1_0, q1_0, r1_0⟩, -⟩, -⟩ := hl
    simp [rv.fd, fnOf] at f0 g0 p0_0 q0_0 r0_0 f1 g1 p1_0 q1_0 r1_0
    have lP0 : P0 < wr.heap.size := block_lt_of_cell p0_0
    have lP1 : P1 < wr.heap.size := block_lt_of_cell p1_0
    have l3 : w.heap.size + 1 < wr.heap.size := block_lt_of_cell c0
    have lF : F < wr.heap.size := block_lt_of_cell f0
    have hj3 : j = 0 ∨ j = 1 ∨ j = 2 := by omega
    rcases hj3 with rfl | rfl | rfl
    · go_wp2
      refine wp_loop_rounds 2 ?_
      rw [rounds_succ]
      go_wp2
      go_quiet (fail)
      go_wp2
      rw [rounds_succ]
      go_wp2
      go_roundw
      case rel =>
        refine ⟨1, by omega, rfl, rfl, HLW.out.keep ?_, hbw.trans (Below.mono ?_ hbw.size)⟩ <;> (repeat (first | exact Below.refl _ _ | with_reducible refine kt.below_more ?_ _ | with_reducible refine Below.drewN' ?_ _))
      case measure => simp [intOf]
    · go_wp2
      refine wp_loop_rounds 2 ?_
      rw [rounds_succ]
      go_wp2
      go_quiet (fail)
      go_wp2
      rw [rounds_succ]
      go_wp2
      go_roundw
      case rel =>
        refine ⟨2, by omega, rfl, rfl, HLW.out.keep ?_, hbw.trans (Below.mono ?_ hbw.size)⟩ <;> (repeat (first | exact Below.refl _ _ | with_reducible refine kt.below_more ?_ _ | with_reducible refine Below.drewN' ?_ _))
      case measure => simp [intOf]
    · go_wp2
      go_ret
      exact ⟨rfl, hbw⟩
/-- the word of form J, behind so many fields -/
def VJ (a b c rd rs1 rs2 im : Int) : Nat → Int
  | 0 => a
  | 1 => (bits .or .u32 a (bits .and .u32 (rd % 4294967296) 31 * 128 % 4294967296))
  | _ => (bits .or .u32 (bits .or .u32 (bits .or .u32 (bits .or .u32 (bits .or .u32 a (bits .and .u32 (rd % 4294967296) 31 * 128 % 4294967296)) (bits .and .u32 (im % 4294967296 / 4096) 255 * 4096 % 4294967296)) (bits .and .u32 (im % 4294967296 / 2048) 1 * 1048576 % 4294967296)) (bits .and .u32 (im % 4294967296 / 2) 1023 * 2097152 % 4294967296)) (bits .and .u32 (im % 4294967296 / 1048576) 1 * 2147483648 % 4294967296))
set_option maxRecDepth 100000 in
set_option maxHeartbeats 3200000 in
theorem word_J (nm : ByteArray) (a b c op rd rs1 rs2 im : Int) (w : World) :
    Calls Tryz.prog 95 #[.agg #[.string nm, .string ⟨#[74]⟩, .int .u32 a, .int .u32 b, .int .u32 c], .agg #[.int .i64 op, .int .i64 rd, .int .i64 rs1, .int .i64 rs2, .int .i64 im]] w fun e w' => e = .returned (.int .u32 (VJ a b c rd rs1 rs2 im 2)) ∧ Below w.heap.size w w' := by
  go_enter Tryz.func95, Tryz.ntmps95
  go_wp2_with fail
  refine (shaped_J _).mono ?_
  rintro e w1 ⟨ad, F, hF, rfl, hf, hb⟩
  obtain rfl : ad = some ⟨F, 0, none⟩ := hF (by decide)
  obtain ⟨r0, r1, hb1, hs1⟩ := two_boxes hb
  have HX := bl.hid (RvAt.of_box r1)
  have x0 : w1.cell? ⟨w.heap.size, 2, none⟩ = some (.int .u32 a) := (cell_of_row _ _ _ _ _ _ r0).trans rfl
  have x1 : w1.cell? ⟨w.heap.size, 3, none⟩ = some (.int .u32 b) := (cell_of_row _ _ _ _ _ _ r0).trans rfl
  have x2 : w1.cell? ⟨w.heap.size, 4, none⟩ = some (.int .u32 c) := (cell_of_row _ _ _ _ _ _ r0).trans rfl
  have HF := bl.hid hf
  have k0 : w.heap.size < w1.heap.size := by omega
  have HL : Hid (∀ o : Obj, LoopAt (w1.alloc o) (w.heap.size + 1) F op rd rs1 rs2 im rv.shJ.fs) := bl.hid fun o => LoopAt.keep ⟨HX.out, HF.out⟩ (kt.below_row _)
  have HB : Hid (∀ o : Obj, Below w.heap.size w (w1.alloc o)) := bl.hid fun o => hb1.alloc hb1.size o
  clear r0 r1 hb hb1 hf
  simp only [rv.shJ, List.length_cons, List.length_nil]
  go_wp2
  go_loopw [6, 37] (fun v k wr => ∃ j : Nat, j ≤ 2 ∧ k = .int .i64 j ∧ v = .int .u32 (VJ a b c rd rs1 rs2 im j) ∧ LoopAt wr (w.heap.size + 1) F op rd rs1 rs2 im rv.shJ.fs ∧ Below w.heap.size w wr) (fun _ k _ => 2 - (intOf k).toNat)
  case atStart => exact ⟨0, by omega, rfl, rfl, HL.out _, HB.out _⟩
  case round =>
    obtain ⟨j, hj, rfl, rfl, hl, hbw⟩ := hrel
    clear HL HB x0 x1 x2
    have HLW := bl.hid hl
    obtain ⟨⟨c0, c1, c2, c3, c4⟩, ⟨P0, f0, g0, ⟨p0_0, q0_0, r0_0⟩, -⟩, ⟨P1, f1, g1, ⟨p1_0, q1_0, r1_0⟩, ⟨p1_1, q1_1, r1_1⟩, ⟨p1_2, q1_2, r1_2⟩, ⟨p1_3, q1_3, r1_3⟩, -⟩, -⟩ := hl
    simp [rv.fd, fnOf] at f0 g0 p0_0 q0_0 r0_0 f1 g1 p1_0 q1_0 r1_0 p1_1 q1_1 r1_1 p1_2 q1_2 r1_2 p1_3 q1_3 r1_3
    have lP0 : P0 < wr.heap.size := block_lt_of_cell p0_0
    have lP1 : P1 < wr.heap.size := block_lt_of_cell p1_0
    have l3 : w.heap.size + 1 < wr.heap.size := block_lt_of_cell c0
    have lF : F < wr.heap.size := block_lt_of_cell f0
    have hj3 : j = 0 ∨ j = 1 ∨ j = 2 := by omega
    rcases hj3 with rfl | rfl | rfl
    · go_wp2
      refine wp_loop_rounds 2 ?_
      rw [rounds_succ]
      go_wp2
      go_quiet (fail)
      go_wp2
      rw [rounds_succ]
      go_wp2
      go_roundw
      case rel =>
        refine ⟨1, by omega, rfl, rfl, HLW.out.keep ?_, hbw.trans (Below.mono ?_ hbw.size)⟩ <;> (repeat (first | exact Below.refl _ _ | with_reducible refine kt.below_more ?_ _ | with_reducible refine Below.drewN' ?_ _))
      case measure => simp [intOf]
    · go_wp2
      refine wp_loop_rounds 5 ?_
      rw [rounds_succ]
      go_wp2
      go_quiet (fail)
      go_wp2
      rw [rounds_succ]
      go_wp2
      go_quiet (fail)
      go_wp2
      rw [rounds_succ]
      refine kt.wp_forget (fun wf => LoopAt wf (w.heap.size + 1) F op rd rs1 rs2 im rv.shJ.fs ∧ Below w.heap.size w wf ∧ Below wr.heap.size wr wf) ⟨HLW.out.keep ?_, hbw.trans (Below.mono ?_ hbw.size), ?_⟩ ?_ <;> (try (repeat (first | exact Below.refl _ _ | with_reducible refine kt.below_more ?_ _ | with_reducible refine Below.drewN' ?_ _)))
      rintro wf ⟨hlf, hbw2, hbz⟩
      have HLW2 := bl.hid hlf
      have zp0 := (hbz.cell (p := ⟨P1, 0, none⟩) lP1).trans p1_0
      have zq0 := (hbz.cell (p := ⟨P1, 1, none⟩) lP1).trans q1_0
      have zr0 := (hbz.cell (p := ⟨P1, 2, none⟩) lP1).trans r1_0
      have zp1 := (hbz.cell (p := ⟨P1, 3, none⟩) lP1).trans p1_1
      have zq1 := (hbz.cell (p := ⟨P1, 4, none⟩) lP1).trans q1_1
      have zr1 := (hbz.cell (p := ⟨P1, 5, none⟩) lP1).trans r1_1
      have zp2 := (hbz.cell (p := ⟨P1, 6, none⟩) lP1).trans p1_2
      have zq2 := (hbz.cell (p := ⟨P1, 7, none⟩) lP1).trans q1_2
      have zr2 := (hbz.cell (p := ⟨P1, 8, none⟩) lP1).trans r1_2
      have zp3 := (hbz.cell (p := ⟨P1, 9, none⟩) lP1).trans p1_3
      have zq3 := (hbz.cell (p := ⟨P1, 10, none⟩) lP1).trans q1_3
      have zr3 := (hbz.cell (p := ⟨P1, 11, none⟩) lP1).trans r1_3
      have lPz : P1 < wf.heap.size := block_lt_of_cell zp0
      clear c0 c1 c2 c3 c4 l3 hlf hbz f0 g0 p0_0 q0_0 r0_0 f1 g1 p1_0 q1_0 r1_0 p1_1 q1_1 r1_1 p1_2 q1_2 r1_2 p1_3 q1_3 r1_3 lP0 lP1
      go_wp2
      go_quiet (fail)
      go_wp2
      rw [rounds_succ]
      go_wp2
      go_quiet (fail)
      go_wp2
      rw [rounds_succ]
      go_wp2
      go_roundw
      case rel =>
        refine ⟨2, by omega, rfl, rfl, HLW2.out.keep ?_, hbw2.trans (Below.mono ?_ hbw2.size)⟩ <;> (repeat (first | exact Below.refl _ _ | with_reducible refine kt.below_more ?_ _ | with_reducible refine Below.drewN' ?_ _))
      case measure => simp [intOf]
    · go_wp2
      go_ret
      exact ⟨rfl, hbw⟩
end Go.Proofs.YtjjkocklpcdbkaaGreat
