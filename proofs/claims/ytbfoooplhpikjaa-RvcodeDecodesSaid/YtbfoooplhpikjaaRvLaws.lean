/- The chapter's examples, walked. -/
import Derived.Test.YtbfoooplhpikjaaRvHas
namespace Go.Proofs.Ytbfoooplhpikjaa
open Go.RowKit
set_option linter.unusedVariables false
theorem kt.below_call {w a b : World} (h : Below w.heap.size w a) (hb : Below a.heap.size a b) : Below w.heap.size w b := h.trans (hb.mono h.size)
theorem is_ok (op rd rs1 rs2 im v : Int) (hc : rv.chkI op rd rs1 rs2 im = 0) (hv : rv.encI op rd rs1 rs2 im = v) (w : World) :
    Calls Try.prog 21 #[.agg #[.int .i64 op, .int .i64 rd, .int .i64 rs1, .int .i64 rs2, .int .i64 im], .int .u32 v] w fun e w' => e = .returned (.bool true) ∧ Below w.heap.size w w' := by
  have HE := bl.hid (fun w => encode_any op rd rs1 rs2 im w)
  rw [hc, hv] at HE
  clear hc hv
  go_enter Try.func21, Try.ntmps21
  go_wp2_with fail
  refine (HE.out _).mono ?_
  rintro e w1 ⟨rfl, hb⟩
  obtain ⟨r0, hb1, hs1⟩ := one_box hb
  have HB1 := bl.hid hb1
  clear hb r0 hb1
  go_wp2
  go_ret
  exact ⟨rfl, HB1.out⟩
namespace rv
theorem k1 : chkI 22 1 0 0 1 = 0 ∧ encI 22 1 0 0 1 = 1048723 := by decide +kernel
theorem k2 : chkI 21 0 1 2 0 = 0 ∧ encI 21 0 1 2 0 = 2142243 := by decide +kernel
theorem k3 : chkI 3 0 0 0 8 = 0 ∧ encI 3 0 0 0 8 = 8388719 := by decide +kernel
theorem k4 : opOf 115 = 63 := by decide +kernel
theorem k5 : decE 115 = 0 := by unfold decE; rw [k4]; rfl
theorem k6 : decRow 115 = #[.int .i64 63, .int .i64 0, .int .i64 0, .int .i64 0, .int .i64 0] := by unfold decRow; rw [k4]; rfl
theorem k7 : opOf 0 = 64 := by decide +kernel
theorem k8 : opOf 4294967295 = 64 := by decide +kernel
theorem dec_none (v : Int) (h : opOf v = 64) : decE v = 16 ∧ decRow v = #[.int .i64 0, .int .i64 0, .int .i64 0, .int .i64 0, .int .i64 0] := by unfold decE decRow; rw [h]; exact ⟨rfl, rfl⟩
theorem k9 : chkI 22 0 0 1 0 = 2 ∧ chkI 5 0 0 0 3 = 2 ∧ chkI 64 0 0 0 0 = 2 := by decide +kernel
theorem k10 : chkI 35 2 1 1 0 = 0 ∧ encI 35 2 1 1 0 = 1081651 := by decide +kernel
theorem k11 : chkI 5 0 1 2 (-4) = 0 ∧ encI 5 0 1 2 (-4) = 4263546595 := by decide +kernel
theorem k12 : chkI 1 5 0 0 1 = 0 ∧ encI 1 5 0 0 1 = 4791 := by decide +kernel
theorem k13 : chkI 63 0 0 0 0 = 0 ∧ encI 63 0 0 0 0 = 115 := by decide +kernel
theorem k14 : chkI 30 1 1 0 63 = 0 ∧ encI 30 1 1 0 63 = 1139855507 := by decide +kernel
theorem k15 : (rowI 63).name = ⟨#[101, 99, 97, 108, 108]⟩ ∧ (rowI 35).form = ⟨#[82]⟩ := by decide +kernel
end rv
theorem dec_115 (w : World) : Calls Try.prog 10 #[.int .u32 115] w fun e w' => e = .returned (.tuple #[.agg #[.int .i64 63, .int .i64 0, .int .i64 0, .int .i64 0, .int .i64 0], .int .i64 0]) ∧ Below w.heap.size w w' := by
  have := decode_any 115 (by omega) (by omega) w
  rwa [rv.k5, rv.k6] at this
theorem dec_no (v : Int) (h0 : 0 ≤ v) (h1 : v < 4294967296) (h : rv.opOf v = 64) (w : World) : Calls Try.prog 10 #[.int .u32 v] w fun e w' => e = .returned (.tuple #[.agg #[.int .i64 0, .int .i64 0, .int .i64 0, .int .i64 0, .int .i64 0], .int .i64 16]) ∧ Below w.heap.size w w' := by
  have := decode_any v h0 h1 w
  rwa [(rv.dec_none v h).1, (rv.dec_none v h).2] at this
theorem chk_at (op rd rs1 rs2 im q : Int) (h : rv.chkI op rd rs1 rs2 im = q) (w : World) : Calls Try.prog 14 #[.agg #[.int .i64 op, .int .i64 rd, .int .i64 rs1, .int .i64 rs2, .int .i64 im]] w fun e w' => e = .returned (.int .i64 q) ∧ Below w.heap.size w w' := h ▸ check_any op rd rs1 rs2 im w
end Go.Proofs.Ytbfoooplhpikjaa
