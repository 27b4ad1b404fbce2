/- RvcodeDecodes and RvcodeEncodes, walked. -/
import Derived.Test.YtbfoooplhpikjaaRfDec
import Derived.Test.YtbfoooplhpikjaaRvCome
import Derived.Deep.RegionHeld3
namespace Go.Proofs.Ytbfoooplhpikjaa
open Go.RowKit
set_option linter.unusedVariables false
theorem decRow_five (v : Int) : ∃ a b c d e : Int, rv.decRow v = #[.int .i64 a, .int .i64 b, .int .i64 c, .int .i64 d, .int .i64 e] := by
  unfold rv.decRow readRow
  split <;> exact ⟨_, _, _, _, _, rfl⟩
set_option maxHeartbeats 800000 in
theorem decodes_walk (v : Int) (w : World) (h : (Lit.int .u32 v).wf = true) :
    Calls Try.prog 3 #[.int .u32 v] w fun e w' => e = .returned (.bool true) ∧ Below w.heap.size w w' := by
  obtain ⟨v0, v1⟩ := wf_u32 h
  have HD := bl.hid (fun w => decode_any v v0 v1 w)
  have HR := bl.hid (fun w => rdecode_any v v0 v1 w)
  obtain ⟨a, b, c, d, e, he⟩ := decRow_five v
  obtain ⟨q, hq⟩ : ∃ q, rv.decE v = q := ⟨_, rfl⟩
  rw [he, hq] at HD HR
  clear he hq h
  go_enter Try.func3, Try.ntmps3
  go_wp2_with fail
  refine (HD.out _).mono ?_
  rintro e1 w1 ⟨rfl, hb⟩
  have HB1 := bl.hid hb
  clear hb
  go_wp2_with fail
  refine (HR.out _).mono ?_
  rintro e2 w2 ⟨rfl, hb⟩
  have r1 := (hb.block w1.heap.size (by rw [World.size_alloc]; omega)).trans (heap_alloc_new _ _)
  have hs := hb.size
  rw [World.size_alloc] at hs
  have HB2 := bl.hid (kt.below_call (kt.below_more' HB1.out _) hb)
  have k1 : w1.heap.size < w2.heap.size := by omega
  obtain ⟨c0, c1, c2, c3, c4⟩ := RvAt.of_box r1
  clear hb r1 hs
  go_wp2_with fail
  refine (awake_any _).mono ?_
  rintro e3 w3 ⟨rfl, hb⟩
  have HB3 := bl.hid (kt.below_call (kt.below_more' HB2.out _) hb)
  clear hb
  go_wp2
  go_ret
  exact ⟨rfl, HB3.out⟩
theorem kt.hold5 {W X : World} {B : Nat} {a b c d e : Int} (hb : Below W.heap.size W X) (h : RvAt W B a b c d e) : RvAt X B a b c d e := h.keep hb
set_option maxHeartbeats 1600000 in
theorem encodes_any (a b c d f : Int) (w : World) :
    Calls Try.prog 6 #[.agg #[.int .i64 a, .int .i64 b, .int .i64 c, .int .i64 d, .int .i64 f]] w fun e w' => e = .returned (.bool true) ∧ Below w.heap.size w w' := by
  have HE := bl.hid (fun w => encode_any a b c d f w)
  have HF := bl.hid (fun w => rencode_any a b c d f w)
  have HC := bl.hid (fun w => check_any a b c d f w)
  have HG := bl.hid (fun w => rcheck_any a b c d f w)
  have HN := bl.hid (fun w => name_any a w)
  have HM := bl.hid (fun w => rname_any a w)
  have HO := bl.hid (fun w => form_any a w)
  have HP := bl.hid (fun w => rform_any a w)
  obtain ⟨v, hv⟩ : ∃ v, rv.encI a b c d f = v := ⟨_, rfl⟩
  obtain ⟨q, hq⟩ : ∃ q, rv.chkI a b c d f = q := ⟨_, rfl⟩
  obtain ⟨nm, hn⟩ : ∃ z, (rv.rowI a).name = z := ⟨_, rfl⟩
  obtain ⟨fm, hf⟩ : ∃ z, (rv.rowI a).form = z := ⟨_, rfl⟩
  rw [hv, hq] at HE HF
  rw [hq] at HC HG
  rw [hn] at HN HM
  rw [hf] at HO HP
  clear hv hq hn hf
  go_enter Try.func6, Try.ntmps6
  go_wp2_with fail
  refine (HE.out _).mono ?_
  rintro e1 w1 ⟨rfl, hb⟩
  obtain ⟨r0, hb1, hs1⟩ := one_box hb
  have HX1 := bl.hid (RvAt.of_box r0)
  have HB1 := bl.hid hb1
  obtain ⟨c0, c1, c2, c3, c4⟩ := HX1.out
  clear hb hb1 r0
  go_wp2_with fail
  refine (HF.out _).mono ?_
  rintro e2 w2 ⟨rfl, hb⟩
  have HX2 := bl.hid (HX1.out.keep hb)
  have HB2 := bl.hid (kt.below_call HB1.out hb)
  have hs2 := hb.size
  clear hb c0 c1 c2 c3 c4
  obtain ⟨c0, c1, c2, c3, c4⟩ := HX2.out
  have k2 : w.heap.size < w2.heap.size := by omega
  go_wp2_with fail
  go_region_held3 (fun w' => w'.cell? ⟨w.heap.size, 0, none⟩ = some (.int .i64 a) ∧ w'.cell? ⟨w.heap.size, 1, none⟩ = some (.int .i64 b) ∧ w'.cell? ⟨w.heap.size, 2, none⟩ = some (.int .i64 c) ∧ w'.cell? ⟨w.heap.size, 3, none⟩ = some (.int .i64 d) ∧ w'.cell? ⟨w.heap.size, 4, none⟩ = some (.int .i64 f)) ((first | assumption | go_keep))
    ((first
      | (go_at_call 14; refine (HC.out _).mono ?_; rintro e3 w3 ⟨rfl, hb⟩; have HB3 : Hid (Below w.heap.size w w3) := bl.hid (kt.below_call (HB2.out.drew) hb); have HX3 : Hid (RvAt w3 w.heap.size a b c d f) := bl.hid (RvAt.keep (w := w2.drew) ⟨HX2.out.c0, HX2.out.c1, HX2.out.c2, HX2.out.c3, HX2.out.c4⟩ hb); have f0 := HX3.out.c0; have f1 := HX3.out.c1; have f2 := HX3.out.c2; have f3 := HX3.out.c3; have f4 := HX3.out.c4; clear hb)
      | (go_at_call 17; refine (HG.out _).mono ?_; rintro e4 w4 ⟨rfl, hb⟩; have HB4 : Hid (Below w.heap.size w w4) := bl.hid (kt.below_call HB3.out hb); have HX4 : Hid (RvAt w4 w.heap.size a b c d f) := bl.hid (RvAt.keep HX3.out hb); have g0 := HX4.out.c0; have g1 := HX4.out.c1; have g2 := HX4.out.c2; have g3 := HX4.out.c3; have g4 := HX4.out.c4; clear hb)))
  clear f0 f1 f2 f3 f4 g1 g2 g3 g4 c0 c1 c2 c3 c4 k2 hs2
  have HAw := bl.hid (fun w => awake_any w)
  have k4 : w.heap.size < w4.heap.size := block_lt_of_cell g0
  go_wp2_with fail
  go_region_held3 (fun w' => w'.cell? ⟨w.heap.size, 0, none⟩ = some (.int .i64 a)) ((first | assumption | go_keep))
    ((first
      | (go_at_call 15; refine (HN.out _).mono ?_; rintro e5 w5 ⟨rfl, hb⟩; have HB5 : Hid (Below w.heap.size w w5) := bl.hid (kt.below_call HB4.out.drew hb); have HX5 : Hid (w5.cell? ⟨w.heap.size, 0, none⟩ = some (.int .i64 a)) := bl.hid ((hb.cell (p := ⟨w.heap.size, 0, none⟩) (block_lt_of_cell (kt.cell_drew HX4.out.c0))).trans (kt.cell_drew HX4.out.c0)); have h5 := HX5.out; clear hb)
      | (go_at_call 18; refine (HM.out _).mono ?_; rintro e6 w6 ⟨rfl, hb⟩; have HB6 : Hid (Below w.heap.size w w6) := bl.hid (kt.below_call HB5.out hb); have HX6 : Hid (w6.cell? ⟨w.heap.size, 0, none⟩ = some (.int .i64 a)) := bl.hid ((hb.cell (p := ⟨w.heap.size, 0, none⟩) (block_lt_of_cell HX5.out)).trans HX5.out); have h6 := HX6.out; clear hb)
      | (go_at_call 19; refine (HO.out _).mono ?_; rintro e7 w7 ⟨rfl, hb⟩; have HB7 : Hid (Below w.heap.size w w7) := bl.hid (kt.below_call HB6.out hb); have HX7 : Hid (w7.cell? ⟨w.heap.size, 0, none⟩ = some (.int .i64 a)) := bl.hid ((hb.cell (p := ⟨w.heap.size, 0, none⟩) (block_lt_of_cell HX6.out)).trans HX6.out); have h7 := HX7.out; clear hb)
      | (go_at_call 20; refine (HP.out _).mono ?_; rintro e8 w8 ⟨rfl, hb⟩; have HB8 : Hid (Below w.heap.size w w8) := bl.hid (kt.below_call HB7.out hb); have HX8 : Hid (w8.cell? ⟨w.heap.size, 0, none⟩ = some (.int .i64 a)) := bl.hid ((hb.cell (p := ⟨w.heap.size, 0, none⟩) (block_lt_of_cell HX7.out)).trans HX7.out); have h8 := HX8.out; clear hb)
      | (go_at_call 12; refine (HAw.out _).mono ?_; rintro e9 w9 ⟨rfl, hb⟩; have HB9 : Hid (Below w.heap.size w w9) := bl.hid (kt.below_call HB8.out hb); have HX9 : Hid (w9.cell? ⟨w.heap.size, 0, none⟩ = some (.int .i64 a)) := bl.hid ((hb.cell (p := ⟨w.heap.size, 0, none⟩) (block_lt_of_cell HX8.out)).trans HX8.out); have h9 := HX9.out; clear hb)))
  go_wp2
  go_ret
  exact ⟨rfl, HB9.out⟩
theorem encodes_walk (x : kt.Ins) (w : World) (h : kt.InsOk w x) :
    Calls Try.prog 6 #[.agg #[.int .i64 x.op, .int .i64 x.rd, .int .i64 x.rs1, .int .i64 x.rs2, .int .i64 x.im]] w fun e w' => e = .returned (.bool true) ∧ Below w.heap.size w w' := encodes_any _ _ _ _ _ w
end Go.Proofs.Ytbfoooplhpikjaa
