/- The reference's Check. -/
import Derived.Test.YtjjkocklpcdbkaaGreatGf1
namespace Go.Proofs.YtjjkocklpcdbkaaGreat
open Go.RowKit
set_option linter.unusedVariables false
set_option maxRecDepth 100000
namespace rf
/-- the answer of the reference's Check: which registers the form has -/
def chk (a b c : Bool) (l : Nat) (rd rs1 rs2 im : Int) : Int := if reg rd a && reg rs1 b && reg rs2 c && immOk l im then 0 else 2
end rf
set_option maxRecDepth 100000 in
set_option maxHeartbeats 1600000 in
theorem rcheck_R (nm : ByteArray) (ra rb rc op rd rs1 rs2 im : Int) (w : World)
    (HRow : Hid (∀ w, Calls Tryz.prog 59 #[.int .i64 op] w fun e w' => e = .returned (.tuple #[.agg #[.string nm, .string ⟨#[82]⟩, .int .u32 ra, .int .u32 rb, .int .u32 rc], .bool true]) ∧ Below w.heap.size w w')) :
    Calls Tryz.prog 98 #[.agg #[.int .i64 op, .int .i64 rd, .int .i64 rs1, .int .i64 rs2, .int .i64 im]] w fun e w' => e = .returned (.int .i64 (rf.chk true true true 82 rd rs1 rs2 im)) ∧ Below w.heap.size w w' := by
  have HI := bl.hid (fun w => rimmediate_R im w)
  have HG1 := bl.hid (fun w => rreg_any rd true w)
  have HG2 := bl.hid (fun w => rreg_any rs1 true w)
  have HG3 := bl.hid (fun w => rreg_any rs2 true w)
  unfold rf.chk
  obtain ⟨p1, e1⟩ : ∃ p, rf.reg rd true = p := ⟨_, rfl⟩
  obtain ⟨p2, e2⟩ : ∃ p, rf.reg rs1 true = p := ⟨_, rfl⟩
  obtain ⟨p3, e3⟩ : ∃ p, rf.reg rs2 true = p := ⟨_, rfl⟩
  obtain ⟨p4, e4⟩ : ∃ p, rf.immOk 82 im = p := ⟨_, rfl⟩
  rw [e1] at HG1
  rw [e2] at HG2
  rw [e3] at HG3
  rw [e4] at HI
  rw [e1, e2, e3, e4]
  clear e1 e2 e3 e4
  go_enter Tryz.func98, Tryz.ntmps98
  go_wp2_with fail
  refine (HRow.out _).mono ?_
  rintro e w1 ⟨rfl, hb⟩
  obtain ⟨r0, hb1, hs1⟩ := one_box hb
  obtain ⟨c0, c1, c2, c3, c4⟩ := RvAt.of_box r0
  have HB1 : Hid (∀ o, Below w.heap.size w (w1.alloc o)) := bl.hid (fun o => kt.below_more' hb1 o)
  have k0 : w.heap.size < w1.heap.size := by omega
  clear r0 hb hb1
  go_wp2_with fail
  refine (HG1.out _).mono ?_
  rintro e w' ⟨rfl, rfl⟩
  cases p1
  · go_wp2
    go_ret
    exact ⟨rfl, HB1.out _⟩
  go_wp2_with fail
  refine (HG2.out _).mono ?_
  rintro e w' ⟨rfl, rfl⟩
  cases p2
  · go_wp2
    go_ret
    exact ⟨rfl, HB1.out _⟩
  go_wp2_with fail
  refine (HG3.out _).mono ?_
  rintro e w' ⟨rfl, rfl⟩
  cases p3
  · go_wp2
    go_ret
    exact ⟨rfl, HB1.out _⟩
  go_wp2_with fail
  refine (HI.out _).mono ?_
  rintro e w' ⟨rfl, rfl⟩
  cases p4
  · go_wp2
    go_ret
    exact ⟨rfl, HB1.out _⟩
  · go_wp2
    go_ret
    exact ⟨rfl, HB1.out _⟩
set_option maxRecDepth 100000 in
set_option maxHeartbeats 1600000 in
theorem rcheck_I (nm : ByteArray) (ra rb rc op rd rs1 rs2 im : Int) (w : World)
    (HRow : Hid (∀ w, Calls Tryz.prog 59 #[.int .i64 op] w fun e w' => e = .returned (.tuple #[.agg #[.string nm, .string ⟨#[73]⟩, .int .u32 ra, .int .u32 rb, .int .u32 rc], .bool true]) ∧ Below w.heap.size w w')) :
    Calls Tryz.prog 98 #[.agg #[.int .i64 op, .int .i64 rd, .int .i64 rs1, .int .i64 rs2, .int .i64 im]] w fun e w' => e = .returned (.int .i64 (rf.chk true true false 73 rd rs1 rs2 im)) ∧ Below w.heap.size w w' := by
  have HI := bl.hid (fun w => rimmediate_I im w)
  have HG1 := bl.hid (fun w => rreg_any rd true w)
  have HG2 := bl.hid (fun w => rreg_any rs1 true w)
  have HG3 := bl.hid (fun w => rreg_any rs2 false w)
  unfold rf.chk
  obtain ⟨p1, e1⟩ : ∃ p, rf.reg rd true = p := ⟨_, rfl⟩
  obtain ⟨p2, e2⟩ : ∃ p, rf.reg rs1 true = p := ⟨_, rfl⟩
  obtain ⟨p3, e3⟩ : ∃ p, rf.reg rs2 false = p := ⟨_, rfl⟩
  obtain ⟨p4, e4⟩ : ∃ p, rf.immOk 73 im = p := ⟨_, rfl⟩
  rw [e1] at HG1
  rw [e2] at HG2
  rw [e3] at HG3
  rw [e4] at HI
  rw [e1, e2, e3, e4]
  clear e1 e2 e3 e4
  go_enter Tryz.func98, Tryz.ntmps98
  go_wp2_with fail
  refine (HRow.out _).mono ?_
  rintro e w1 ⟨rfl, hb⟩
  obtain ⟨r0, hb1, hs1⟩ := one_box hb
  obtain ⟨c0, c1, c2, c3, c4⟩ := RvAt.of_box r0
  have HB1 : Hid (∀ o, Below w.heap.size w (w1.alloc o)) := bl.hid (fun o => kt.below_more' hb1 o)
  have k0 : w.heap.size < w1.heap.size := by omega
  clear r0 hb hb1
  go_wp2_with fail
  refine (HG1.out _).mono ?_
  rintro e w' ⟨rfl, rfl⟩
  cases p1
  · go_wp2
    go_ret
    exact ⟨rfl, HB1.out _⟩
  go_wp2_with fail
  refine (HG2.out _).mono ?_
  rintro e w' ⟨rfl, rfl⟩
  cases p2
  · go_wp2
    go_ret
    exact ⟨rfl, HB1.out _⟩
  go_wp2_with fail
  refine (HG3.out _).mono ?_
  rintro e w' ⟨rfl, rfl⟩
  cases p3
  · go_wp2
    go_ret
    exact ⟨rfl, HB1.out _⟩
  go_wp2_with fail
  refine (HI.out _).mono ?_
  rintro e w' ⟨rfl, rfl⟩
  cases p4
  · go_wp2
    go_ret
    exact ⟨rfl, HB1.out _⟩
  · go_wp2
    go_ret
    exact ⟨rfl, HB1.out _⟩
set_option maxRecDepth 100000 in
set_option maxHeartbeats 1600000 in
theorem rcheck_X (nm : ByteArray) (ra rb rc op rd rs1 rs2 im : Int) (w : World)
    (HRow : Hid (∀ w, Calls Tryz.prog 59 #[.int .i64 op] w fun e w' => e = .returned (.tuple #[.agg #[.string nm, .string ⟨#[88]⟩, .int .u32 ra, .int .u32 rb, .int .u32 rc], .bool true]) ∧ Below w.heap.size w w')) :
    Calls Tryz.prog 98 #[.agg #[.int .i64 op, .int .i64 rd, .int .i64 rs1, .int .i64 rs2, .int .i64 im]] w fun e w' => e = .returned (.int .i64 (rf.chk true true false 88 rd rs1 rs2 im)) ∧ Below w.heap.size w w' := by
  have HI := bl.hid (fun w => rimmediate_X im w)
  have HG1 := bl.hid (fun w => rreg_any rd true w)
  have HG2 := bl.hid (fun w => rreg_any rs1 true w)
  have HG3 := bl.hid (fun w => rreg_any rs2 false w)
  unfold rf.chk
  obtain ⟨p1, e1⟩ : ∃ p, rf.reg rd true = p := ⟨_, rfl⟩
  obtain ⟨p2, e2⟩ : ∃ p, rf.reg rs1 true = p := ⟨_, rfl⟩
  obtain ⟨p3, e3⟩ : ∃ p, rf.reg rs2 false = p := ⟨_, rfl⟩
  obtain ⟨p4, e4⟩ : ∃ p, rf.immOk 88 im = p := ⟨_, rfl⟩
  rw [e1] at HG1
  rw [e2] at HG2
  rw [e3] at HG3
  rw [e4] at HI
  rw [e1, e2, e3, e4]
  clear e1 e2 e3 e4
  go_enter Tryz.func98, Tryz.ntmps98
  go_wp2_with fail
  refine (HRow.out _).mono ?_
  rintro e w1 ⟨rfl, hb⟩
  obtain ⟨r0, hb1, hs1⟩ := one_box hb
  obtain ⟨c0, c1, c2, c3, c4⟩ := RvAt.of_box r0
  have HB1 : Hid (∀ o, Below w.heap.size w (w1.alloc o)) := bl.hid (fun o => kt.below_more' hb1 o)
  have k0 : w.heap.size < w1.heap.size := by omega
  clear r0 hb hb1
  go_wp2_with fail
  refine (HG1.out _).mono ?_
  rintro e w' ⟨rfl, rfl⟩
  cases p1
  · go_wp2
    go_ret
    exact ⟨rfl, HB1.out _⟩
  go_wp2_with fail
  refine (HG2.out _).mono ?_
  rintro e w' ⟨rfl, rfl⟩
  cases p2
  · go_wp2
    go_ret
    exact ⟨rfl, HB1.out _⟩
  go_wp2_with fail
  refine (HG3.out _).mono ?_
  rintro e w' ⟨rfl, rfl⟩
  cases p3
  · go_wp2
    go_ret
    exact ⟨rfl, HB1.out _⟩
  go_wp2_with fail
  refine (HI.out _).mono ?_
  rintro e w' ⟨rfl, rfl⟩
  cases p4
  · go_wp2
    go_ret
    exact ⟨rfl, HB1.out _⟩
  · go_wp2
    go_ret
    exact ⟨rfl, HB1.out _⟩
set_option maxRecDepth 100000 in
set_option maxHeartbeats 1600000 in
theorem rcheck_Y (nm : ByteArray) (ra rb rc op rd rs1 rs2 im : Int) (w : World)
    (HRow : Hid (∀ w, Calls Tryz.prog 59 #[.int .i64 op] w fun e w' => e = .returned (.tuple #[.agg #[.string nm, .string ⟨#[89]⟩, .int .u32 ra, .int .u32 rb, .int .u32 rc], .bool true]) ∧ Below w.heap.size w w')) :
    Calls Tryz.prog 98 #[.agg #[.int .i64 op, .int .i64 rd, .int .i64 rs1, .int .i64 rs2, .int .i64 im]] w fun e w' => e = .returned (.int .i64 (rf.chk true true false 89 rd rs1 rs2 im)) ∧ Below w.heap.size w w' := by
  have HI := bl.hid (fun w => rimmediate_Y im w)
  have HG1 := bl.hid (fun w => rreg_any rd true w)
  have HG2 := bl.hid (fun w => rreg_any rs1 true w)
  have HG3 := bl.hid (fun w => rreg_any rs2 false w)
  unfold rf.chk
  obtain ⟨p1, e1⟩ : ∃ p, rf.reg rd true = p := ⟨_, rfl⟩
  obtain ⟨p2, e2⟩ : ∃ p, rf.reg rs1 true = p := ⟨_, rfl⟩
  obtain ⟨p3, e3⟩ : ∃ p, rf.reg rs2 false = p := ⟨_, rfl⟩
  obtain ⟨p4, e4⟩ : ∃ p, rf.immOk 89 im = p := ⟨_, rfl⟩
  rw [e1] at HG1
  rw [e2] at HG2
  rw [e3] at HG3
  rw [e4] at HI
  rw [e1, e2, e3, e4]
  clear e1 e2 e3 e4
  go_enter Tryz.func98, Tryz.ntmps98
  go_wp2_with fail
  refine (HRow.out _).mono ?_
  rintro e w1 ⟨rfl, hb⟩
  obtain ⟨r0, hb1, hs1⟩ := one_box hb
  obtain ⟨c0, c1, c2, c3, c4⟩ := RvAt.of_box r0
  have HB1 : Hid (∀ o, Below w.heap.size w (w1.alloc o)) := bl.hid (fun o => kt.below_more' hb1 o)
  have k0 : w.heap.size < w1.heap.size := by omega
  clear r0 hb hb1
  go_wp2_with fail
  refine (HG1.out _).mono ?_
  rintro e w' ⟨rfl, rfl⟩
  cases p1
  · go_wp2
    go_ret
    exact ⟨rfl, HB1.out _⟩
  go_wp2_with fail
  refine (HG2.out _).mono ?_
  rintro e w' ⟨rfl, rfl⟩
  cases p2
  · go_wp2
    go_ret
    exact ⟨rfl, HB1.out _⟩
  go_wp2_with fail
  refine (HG3.out _).mono ?_
  rintro e w' ⟨rfl, rfl⟩
  cases p3
  · go_wp2
    go_ret
    exact ⟨rfl, HB1.out _⟩
  go_wp2_with fail
  refine (HI.out _).mono ?_
  rintro e w' ⟨rfl, rfl⟩
  cases p4
  · go_wp2
    go_ret
    exact ⟨rfl, HB1.out _⟩
  · go_wp2
    go_ret
    exact ⟨rfl, HB1.out _⟩
set_option maxRecDepth 100000 in
set_option maxHeartbeats 1600000 in
theorem rcheck_S (nm : ByteArray) (ra rb rc op rd rs1 rs2 im : Int) (w : World)
    (HRow : Hid (∀ w, Calls Tryz.prog 59 #[.int .i64 op] w fun e w' => e = .returned (.tuple #[.agg #[.string nm, .string ⟨#[83]⟩, .int .u32 ra, .int .u32 rb, .int .u32 rc], .bool true]) ∧ Below w.heap.size w w')) :
    Calls Tryz.prog 98 #[.agg #[.int .i64 op, .int .i64 rd, .int .i64 rs1, .int .i64 rs2, .int .i64 im]] w fun e w' => e = .returned (.int .i64 (rf.chk false true true 83 rd rs1 rs2 im)) ∧ Below w.heap.size w w' := by
  have HI := bl.hid (fun w => rimmediate_S im w)
  have HG1 := bl.hid (fun w => rreg_any rd false w)
  have HG2 := bl.hid (fun w => rreg_any rs1 true w)
  have HG3 := bl.hid (fun w => rreg_any rs2 true w)
  unfold rf.chk
  obtain ⟨p1, e1⟩ : ∃ p, rf.reg rd false = p := ⟨_, rfl⟩
  obtain ⟨p2, e2⟩ : ∃ p, rf.reg rs1 true = p := ⟨_, rfl⟩
  obtain ⟨p3, e3⟩ : ∃ p, rf.reg rs2 true = p := ⟨_, rfl⟩
  obtain ⟨p4, e4⟩ : ∃ p, rf.immOk 83 im = p := ⟨_, rfl⟩
  rw [e1] at HG1
  rw [e2] at HG2
  rw [e3] at HG3
  rw [e4] at HI
  rw [e1, e2, e3, e4]
  clear e1 e2 e3 e4
  go_enter Tryz.func98, Tryz.ntmps98
  go_wp2_with fail
  refine (HRow.out _).mono ?_
  rintro e w1 ⟨rfl, hb⟩
  obtain ⟨r0, hb1, hs1⟩ := one_box hb
  obtain ⟨c0, c1, c2, c3, c4⟩ := RvAt.of_box r0
  have HB1 : Hid (∀ o, Below w.heap.size w (w1.alloc o)) := bl.hid (fun o => kt.below_more' hb1 o)
  have k0 : w.heap.size < w1.heap.size := by omega
  clear r0 hb hb1
  go_wp2_with fail
  refine (HG1.out _).mono ?_
  rintro e w' ⟨rfl, rfl⟩
  cases p1
  · go_wp2
    go_ret
    exact ⟨rfl, HB1.out _⟩
  go_wp2_with fail
  refine (HG2.out _).mono ?_
  rintro e w' ⟨rfl, rfl⟩
  cases p2
  · go_wp2
    go_ret
    exact ⟨rfl, HB1.out _⟩
  go_wp2_with fail
  refine (HG3.out _).mono ?_
  rintro e w' ⟨rfl, rfl⟩
  cases p3
  · go_wp2
    go_ret
    exact ⟨rfl, HB1.out _⟩
  go_wp2_with fail
  refine (HI.out _).mono ?_
  rintro e w' ⟨rfl, rfl⟩
  cases p4
  · go_wp2
    go_ret
    exact ⟨rfl, HB1.out _⟩
  · go_wp2
    go_ret
    exact ⟨rfl, HB1.out _⟩
set_option maxRecDepth 100000 in
set_option maxHeartbeats 1600000 in
theorem rcheck_B (nm : ByteArray) (ra rb rc op rd rs1 rs2 im : Int) (w : World)
    (HRow : Hid (∀ w, Calls Tryz.prog 59 #[.int .i64 op] w fun e w' => e = .returned (.tuple #[.agg #[.string nm, .string ⟨#[66]⟩, .int .u32 ra, .int .u32 rb, .int .u32 rc], .bool true]) ∧ Below w.heap.size w w')) :
    Calls Tryz.prog 98 #[.agg #[.int .i64 op, .int .i64 rd, .int .i64 rs1, .int .i64 rs2, .int .i64 im]] w fun e w' => e = .returned (.int .i64 (rf.chk false true true 66 rd rs1 rs2 im)) ∧ Below w.heap.size w w' := by
  have HI := bl.hid (fun w => rimmediate_B im w)
  have HG1 := bl.hid (fun w => rreg_any rd false w)
  have HG2 := bl.hid (fun w => rreg_any rs1 true w)
  have HG3 := bl.hid (fun w => rreg_any rs2 true w)
  unfold rf.chk
  obtain ⟨p1, e1⟩ : ∃ p, rf.reg rd false = p := ⟨_, rfl⟩
  obtain ⟨p2, e2⟩ : ∃ p, rf.reg rs1 true = p := ⟨_, rfl⟩
  obtain ⟨p3, e3⟩ : ∃ p, rf.reg rs2 true = p := ⟨_, rfl⟩
  obtain ⟨p4, e4⟩ : ∃ p, rf.immOk 66 im = p := ⟨_, rfl⟩
  rw [e1] at HG1
  rw [e2] at HG2
  rw [e3] at HG3
  rw [e4] at HI
  rw [e1, e2, e3, e4]
  clear e1 e2 e3 e4
  go_enter Tryz.func98, Tryz.ntmps98
  go_wp2_with fail
  refine (HRow.out _).mono ?_
  rintro e w1 ⟨rfl, hb⟩
  obtain ⟨r0, hb1, hs1⟩ := one_box hb
  obtain ⟨c0, c1, c2, c3, c4⟩ := RvAt.of_box r0
  have HB1 : Hid (∀ o, Below w.heap.size w (w1.alloc o)) := bl.hid (fun o => kt.below_more' hb1 o)
  have k0 : w.heap.size < w1.heap.size := by omega
  clear r0 hb hb1
  go_wp2_with fail
  refine (HG1.out _).mono ?_
  rintro e w' ⟨rfl, rfl⟩
  cases p1
  · go_wp2
    go_ret
    exact ⟨rfl, HB1.out _⟩
  go_wp2_with fail
  refine (HG2.out _).mono ?_
  rintro e w' ⟨rfl, rfl⟩
  cases p2
  · go_wp2
    go_ret
    exact ⟨rfl, HB1.out _⟩
  go_wp2_with fail
  refine (HG3.out _).mono ?_
  rintro e w' ⟨rfl, rfl⟩
  cases p3
  · go_wp2
    go_ret
    exact ⟨rfl, HB1.out _⟩
  go_wp2_with fail
  refine (HI.out _).mono ?_
  rintro e w' ⟨rfl, rfl⟩
  cases p4
  · go_wp2
    go_ret
    exact ⟨rfl, HB1.out _⟩
  · go_wp2
    go_ret
    exact ⟨rfl, HB1.out _⟩
set_option maxRecDepth 100000 in
set_option maxHeartbeats 1600000 in
theorem rcheck_U (nm : ByteArray) (ra rb rc op rd rs1 rs2 im : Int) (w : World)
    (HRow : Hid (∀ w, Calls Tryz.prog 59 #[.int .i64 op] w fun e w' => e = .returned (.tuple #[.agg #[.string nm, .string ⟨#[85]⟩, .int .u32 ra, .int .u32 rb, .int .u32 rc], .bool true]) ∧ Below w.heap.size w w')) :
    Calls Tryz.prog 98 #[.agg #[.int .i64 op, .int .i64 rd, .int .i64 rs1, .int .i64 rs2, .int .i64 im]] w fun e w' => e = .returned (.int .i64 (rf.chk true false false 85 rd rs1 rs2 im)) ∧ Below w.heap.size w w' := by
  have HI := bl.hid (fun w => rimmediate_U im w)
  have HG1 := bl.hid (fun w => rreg_any rd true w)
  have HG2 := bl.hid (fun w => rreg_any rs1 false w)
  have HG3 := bl.hid (fun w => rreg_any rs2 false w)
  unfold rf.chk
  obtain ⟨p1, e1⟩ : ∃ p, rf.reg rd true = p := ⟨_, rfl⟩
  obtain ⟨p2, e2⟩ : ∃ p, rf.reg rs1 false = p := ⟨_, rfl⟩
  obtain ⟨p3, e3⟩ : ∃ p, rf.reg rs2 false = p := ⟨_, rfl⟩
  obtain ⟨p4, e4⟩ : ∃ p, rf.immOk 85 im = p := ⟨_, rfl⟩
  rw [e1] at HG1
  rw [e2] at HG2
  rw [e3] at HG3
  rw [e4] at HI
  rw [e1, e2, e3, e4]
  clear e1 e2 e3 e4
  go_enter Tryz.func98, Tryz.ntmps98
  go_wp2_with fail
  refine (HRow.out _).mono ?_
  rintro e w1 ⟨rfl, hb⟩
  obtain ⟨r0, hb1, hs1⟩ := one_box hb
  obtain ⟨c0, c1, c2, c3, c4⟩ := RvAt.of_box r0
  have HB1 : Hid (∀ o, Below w.heap.size w (w1.alloc o)) := bl.hid (fun o => kt.below_more' hb1 o)
  have k0 : w.heap.size < w1.heap.size := by omega
  clear r0 hb hb1
  go_wp2_with fail
  refine (HG1.out _).mono ?_
  rintro e w' ⟨rfl, rfl⟩
  cases p1
  · go_wp2
    go_ret
    exact ⟨rfl, HB1.out _⟩
  go_wp2_with fail
  refine (HG2.out _).mono ?_
  rintro e w' ⟨rfl, rfl⟩
  cases p2
  · go_wp2
    go_ret
    exact ⟨rfl, HB1.out _⟩
  go_wp2_with fail
  refine (HG3.out _).mono ?_
  rintro e w' ⟨rfl, rfl⟩
  cases p3
  · go_wp2
    go_ret
    exact ⟨rfl, HB1.out _⟩
  go_wp2_with fail
  refine (HI.out _).mono ?_
  rintro e w' ⟨rfl, rfl⟩
  cases p4
  · go_wp2
    go_ret
    exact ⟨rfl, HB1.out _⟩
  · go_wp2
    go_ret
    exact ⟨rfl, HB1.out _⟩
set_option maxRecDepth 100000 in
set_option maxHeartbeats 1600000 in
theorem rcheck_J (nm : ByteArray) (ra rb rc op rd rs1 rs2 im : Int) (w : World)
    (HRow : Hid (∀ w, Calls Tryz.prog 59 #[.int .i64 op] w fun e w' => e = .returned (.tuple #[.agg #[.string nm, .string ⟨#[74]⟩, .int .u32 ra, .int .u32 rb, .int .u32 rc], .bool true]) ∧ Below w.heap.size w w')) :
    Calls Tryz.prog 98 #[.agg #[.int .i64 op, .int .i64 rd, .int .i64 rs1, .int .i64 rs2, .int .i64 im]] w fun e w' => e = .returned (.int .i64 (rf.chk true false false 74 rd rs1 rs2 im)) ∧ Below w.heap.size w w' := by
  have HI := bl.hid (fun w => rimmediate_J im w)
  have HG1 := bl.hid (fun w => rreg_any rd true w)
  have HG2 := bl.hid (fun w => rreg_any rs1 false w)
  have HG3 := bl.hid (fun w => rreg_any rs2 false w)
  unfold rf.chk
  obtain ⟨p1, e1⟩ : ∃ p, rf.reg rd true = p := ⟨_, rfl⟩
  obtain ⟨p2, e2⟩ : ∃ p, rf.reg rs1 false = p := ⟨_, rfl⟩
  obtain ⟨p3, e3⟩ : ∃ p, rf.reg rs2 false = p := ⟨_, rfl⟩
  obtain ⟨p4, e4⟩ : ∃ p, rf.immOk 74 im = p := ⟨_, rfl⟩
  rw [e1] at HG1
  rw [e2] at HG2
  rw [e3] at HG3
  rw [e4] at HI
  rw [e1, e2, e3, e4]
  clear e1 e2 e3 e4
  go_enter Tryz.func98, Tryz.ntmps98
  go_wp2_with fail
  refine (HRow.out _).mono ?_
  rintro e w1 ⟨rfl, hb⟩
  obtain ⟨r0, hb1, hs1⟩ := one_box hb
  obtain ⟨c0, c1, c2, c3, c4⟩ := RvAt.of_box r0
  have HB1 : Hid (∀ o, Below w.heap.size w (w1.alloc o)) := bl.hid (fun o => kt.below_more' hb1 o)
  have k0 : w.heap.size < w1.heap.size := by omega
  clear r0 hb hb1
  go_wp2_with fail
  refine (HG1.out _).mono ?_
  rintro e w' ⟨rfl, rfl⟩
  cases p1
  · go_wp2
    go_ret
    exact ⟨rfl, HB1.out _⟩
  go_wp2_with fail
  refine (HG2.out _).mono ?_
  rintro e w' ⟨rfl, rfl⟩
  cases p2
  · go_wp2
    go_ret
    exact ⟨rfl, HB1.out _⟩
  go_wp2_with fail
  refine (HG3.out _).mono ?_
  rintro e w' ⟨rfl, rfl⟩
  cases p3
  · go_wp2
    go_ret
    exact ⟨rfl, HB1.out _⟩
  go_wp2_with fail
  refine (HI.out _).mono ?_
  rintro e w' ⟨rfl, rfl⟩
  cases p4
  · go_wp2
    go_ret
    exact ⟨rfl, HB1.out _⟩
  · go_wp2
    go_ret
    exact ⟨rfl, HB1.out _⟩
set_option maxRecDepth 100000 in
set_option maxHeartbeats 1600000 in
theorem rcheck_E (nm : ByteArray) (ra rb rc op rd rs1 rs2 im : Int) (w : World)
    (HRow : Hid (∀ w, Calls Tryz.prog 59 #[.int .i64 op] w fun e w' => e = .returned (.tuple #[.agg #[.string nm, .string ⟨#[69]⟩, .int .u32 ra, .int .u32 rb, .int .u32 rc], .bool true]) ∧ Below w.heap.size w w')) :
    Calls Tryz.prog 98 #[.agg #[.int .i64 op, .int .i64 rd, .int .i64 rs1, .int .i64 rs2, .int .i64 im]] w fun e w' => e = .returned (.int .i64 (rf.chk false false false 69 rd rs1 rs2 im)) ∧ Below w.heap.size w w' := by
  have HI := bl.hid (fun w => rimmediate_E im w)
  have HG1 := bl.hid (fun w => rreg_any rd false w)
  have HG2 := bl.hid (fun w => rreg_any rs1 false w)
  have HG3 := bl.hid (fun w => rreg_any rs2 false w)
  unfold rf.chk
  obtain ⟨p1, e1⟩ : ∃ p, rf.reg rd false = p := ⟨_, rfl⟩
  obtain ⟨p2, e2⟩ : ∃ p, rf.reg rs1 false = p := ⟨_, rfl⟩
  obtain ⟨p3, e3⟩ : ∃ p, rf.reg rs2 false = p := ⟨_, rfl⟩
  obtain ⟨p4, e4⟩ : ∃ p, rf.immOk 69 im = p := ⟨_, rfl⟩
  rw [e1] at HG1
  rw [e2] at HG2
  rw [e3] at HG3
  rw [e4] at HI
  rw [e1, e2, e3, e4]
  clear e1 e2 e3 e4
  go_enter Tryz.func98, Tryz.ntmps98
  go_wp2_with fail
  refine (HRow.out _).mono ?_
  rintro e w1 ⟨rfl, hb⟩
  obtain ⟨r0, hb1, hs1⟩ := one_box hb
  obtain ⟨c0, c1, c2, c3, c4⟩ := RvAt.of_box r0
  have HB1 : Hid (∀ o, Below w.heap.size w (w1.alloc o)) := bl.hid (fun o => kt.below_more' hb1 o)
  have k0 : w.heap.size < w1.heap.size := by omega
  clear r0 hb hb1
  go_wp2_with fail
  refine (HG1.out _).mono ?_
  rintro e w' ⟨rfl, rfl⟩
  cases p1
  · go_wp2
    go_ret
    exact ⟨rfl, HB1.out _⟩
  go_wp2_with fail
  refine (HG2.out _).mono ?_
  rintro e w' ⟨rfl, rfl⟩
  cases p2
  · go_wp2
    go_ret
    exact ⟨rfl, HB1.out _⟩
  go_wp2_with fail
  refine (HG3.out _).mono ?_
  rintro e w' ⟨rfl, rfl⟩
  cases p3
  · go_wp2
    go_ret
    exact ⟨rfl, HB1.out _⟩
  go_wp2_with fail
  refine (HI.out _).mono ?_
  rintro e w' ⟨rfl, rfl⟩
  cases p4
  · go_wp2
    go_ret
    exact ⟨rfl, HB1.out _⟩
  · go_wp2
    go_ret
    exact ⟨rfl, HB1.out _⟩
end Go.Proofs.YtjjkocklpcdbkaaGreat
