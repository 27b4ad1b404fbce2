/- The chapter's examples, walked. The reference's table. The reference's row, Name and Form. The reference's small functions. The reference's functions of a form, form by form. -/
import Derived.Test.YtjjkocklpcdbkaaGreatGr3
import Derived.Test.YtjjkocklpcdbkaaGreatGr1
import Derived.Great.Walk
import Derived.BigFrame
import Derived.Outline
namespace Go.Proofs.YtjjkocklpcdbkaaGreat
open Go.RowKit
set_option linter.unusedVariables false
set_option maxRecDepth 100000
theorem kt.below_call {w a b : World} (h : Below w.heap.size w a) (hb : Below a.heap.size a b) : Below w.heap.size w b := h.trans (hb.mono h.size)
namespace rv
theorem k1 : chkI 22 1 0 0 1 = 0 ∧ encI 22 1 0 0 1 = 1048723 := by decide +kernel
theorem k2 : chkI 21 0 1 2 0 = 0 ∧ encI 21 0 1 2 0 = 2142243 := by decide +kernel
theorem k3 : chkI 3 0 0 0 8 = 0 ∧ encI 3 0 0 0 8 = 8388719 := by decide +kernel
theorem k4 : opOf 115 = 63 := by decide +kernel
theorem k5 : decE 115 = 0 := by unfold decE; rw [k4]; rfl
theorem k6 : decRow 115 = #[.int .i64 63, .int .i64 0, .int .i64 0, .int .i64 0, .int .i64 0] := by unfold decRow; rw [k4]; rfl
theorem k7 : opOf 0 = 64 := by decide +kernel
theorem k8 : opOf 4294967295 = 64 := by decide +kernel
theorem k9 : chkI 22 0 0 1 0 = 2 ∧ chkI 5 0 0 0 3 = 2 ∧ chkI 64 0 0 0 0 = 2 := by decide +kernel
theorem k10 : chkI 35 2 1 1 0 = 0 ∧ encI 35 2 1 1 0 = 1081651 := by decide +kernel
theorem k11 : chkI 5 0 1 2 (-4) = 0 ∧ encI 5 0 1 2 (-4) = 4263546595 := by decide +kernel
theorem k12 : chkI 1 5 0 0 1 = 0 ∧ encI 1 5 0 0 1 = 4791 := by decide +kernel
theorem k13 : chkI 63 0 0 0 0 = 0 ∧ encI 63 0 0 0 0 = 115 := by decide +kernel
theorem k14 : chkI 30 1 1 0 63 = 0 ∧ encI 30 1 1 0 63 = 1139855507 := by decide +kernel
theorem k15 : (rowI 63).name = ⟨#[101, 99, 97, 108, 108]⟩ ∧ (rowI 35).form = ⟨#[82]⟩ := by decide +kernel
end rv
theorem dec_115 (w : World) : Calls Tryz.prog 66 #[.int .u32 115] w fun e w' => e = .returned (.tuple #[.agg #[.int .i64 63, .int .i64 0, .int .i64 0, .int .i64 0, .int .i64 0], .int .i64 0]) ∧ Below w.heap.size w w' := by
  have := decode_any 115 (by omega) (by omega) w
  rwa [rv.k5, rv.k6] at this
theorem dec_no (v : Int) (h0 : 0 ≤ v) (h1 : v < 4294967296) (h : rv.opOf v = 64) (w : World) : Calls Tryz.prog 66 #[.int .u32 v] w fun e w' => e = .returned (.tuple #[.agg #[.int .i64 0, .int .i64 0, .int .i64 0, .int .i64 0, .int .i64 0], .int .i64 16]) ∧ Below w.heap.size w w' := by
  have := decode_any v h0 h1 w
  rwa [(rv.dec_none v h).1, (rv.dec_none v h).2] at this
theorem chk_at (op rd rs1 rs2 im q : Int) (h : rv.chkI op rd rs1 rs2 im = q) (w : World) : Calls Tryz.prog 94 #[.agg #[.int .i64 op, .int .i64 rd, .int .i64 rs1, .int .i64 rs2, .int .i64 im]] w fun e w' => e = .returned (.int .i64 q) ∧ Below w.heap.size w w' := h ▸ check_any op rd rs1 rs2 im w
end Go.Proofs.YtjjkocklpcdbkaaGreat
namespace Go.Proofs.YtjjkocklpcdbkaaGreat
open Go.RowKit
set_option linter.unusedVariables false
set_option maxRecDepth 100000
def refArr : Array Value := rowsArr.extract 5 320
set_option maxRecDepth 100000 in
theorem refArr_size : refArr.size = 315 := by kernel_rfl
/-- cell j of row k, counted from 0 -/
theorem refArr_at (k j : Nat) (hk : k < 63) (hj : j < 5) : refArr[k * 5 + j]? = (rv.cells (rv.row (k + 1)))[j]? := by
  rw [← rowsArr_at (k + 1) j (by omega) hj]
  unfold refArr
  rw [Array.getElem?_extract, rowsArr_size, if_pos (by omega)]
  congr 1
  omega
theorem kt.wpList_assign {P : Program} {ops : Array Oper} {rest : List Oper} {o : Oper} {a : Act} {w : World} {Q : Exit → Act → World → Prop} (hg : o.guard = none) (x : Operand) (ho : o.op = .assign x)
    (h : wpList P ops Q rest (a.put o.dst (a.eval x)) w) : wpList P ops Q (o :: rest) a w :=
  wpList_plain hg fun _ hK => Go.BigFrame.wp_assign x ho (hK _ _ h)
set_option maxRecDepth 100000 in
set_option maxHeartbeats 1600000 in
theorem refrows_any (w : World) : Calls Tryz.prog 73 #[] w fun e w' => e = .returned (.slice (some ⟨w.heap.size, 0, none⟩) 63 63) ∧ w' = w.alloc (.cells refArr 107) := by
  go_enter Tryz.func73, Tryz.ntmps73
  refine wp_seq_k (fun K hK => ?_)
  refine wp_region_lit ?_
  refine kt.wpList_assign rfl _ rfl ?_
  refine wpList_nil ?_
  refine hK _ _ ?_
  clear hK K
  refine wp_seq_k (fun K hK => ?_)
  refine wp_region_lit ?_
  simp only [List.append_eq, List.cons_append, List.nil_append]
  iterate 63 (refine wpList_build rfl _ _ rfl (by kernel_rfl) ?_)
  refine Great.wpList_buildSliceTo rfl 118 107 63 _ rfl w.heap.size rfl _ rfl Tryz.underlying118 refArr (by kernel_rfl) ?_
  refine kt.wpList_assign rfl _ rfl ?_
  refine wpList_nil ?_
  refine hK _ _ ?_
  clear hK K
  refine wp_ret ?_
  refine bodyPost_ret (v := .slice (some ⟨w.heap.size, 0, none⟩) 63 63) (by simp [results, Tryz.results73, go_sem]) (by kernel_rfl) ?_
  exact ⟨rfl, rfl⟩
theorem rrow_info : (Tryz.prog.info? 107).map (·.size) = some 5 := by kernel_rfl
/-- the table lies in block B -/
structure RefAt (w : World) (B : Nat) : Prop where
  h : w.heap[B]? = some (.cells refArr 107 (0, 0))
theorem RefAt.cells {w : World} {B : Nat} (h : RefAt w B) (k : Nat) (hk : k < 63) : w.cell? ⟨B, k * 5, none⟩ = some (.string (rv.row (k + 1)).name) ∧ w.cell? ⟨B, k * 5 + 1, none⟩ = some (.string (rv.row (k + 1)).form) ∧
    w.cell? ⟨B, k * 5 + 2, none⟩ = some (.int .u32 (rv.row (k + 1)).a) ∧ w.cell? ⟨B, k * 5 + 3, none⟩ = some (.int .u32 (rv.row (k + 1)).b) ∧ w.cell? ⟨B, k * 5 + 4, none⟩ = some (.int .u32 (rv.row (k + 1)).c) :=
  ⟨(cell_of_row _ _ _ _ _ _ h.h).trans (refArr_at k 0 hk (by omega)), (cell_of_row _ _ _ _ _ _ h.h).trans (refArr_at k 1 hk (by omega)), (cell_of_row _ _ _ _ _ _ h.h).trans (refArr_at k 2 hk (by omega)), (cell_of_row _ _ _ _ _ _ h.h).trans (refArr_at k 3 hk (by omega)), (cell_of_row _ _ _ _ _ _ h.h).trans (refArr_at k 4 hk (by omega))⟩
def RowsPost (w : World) (e : Ending) (w' : World) : Prop := ∃ B : Nat, e = .returned (.slice (some ⟨B, 0, none⟩) 63 63) ∧ w.heap.size ≤ B ∧ B < w'.heap.size ∧ RefAt w' B ∧ Below w.heap.size w w'
theorem refrows (w : World) : Calls Tryz.prog 73 #[] w (RowsPost w) := by
  refine (refrows_any w).mono ?_
  rintro e w' ⟨rfl, rfl⟩
  exact ⟨w.heap.size, rfl, Nat.le_refl _, by rw [World.size_alloc]; omega, ⟨heap_alloc_new _ _⟩, kt.below_row _⟩
end Go.Proofs.YtjjkocklpcdbkaaGreat
namespace Go.Proofs.YtjjkocklpcdbkaaGreat
open Go.RowKit
set_option linter.unusedVariables false
set_option maxRecDepth 100000
set_option maxHeartbeats 800000 in
theorem rrow_ok (k : Nat) (w : World) (h0 : 1 ≤ k) (h1 : k < 64) :
    Calls Tryz.prog 59 #[.int .i64 k] w fun e w' => e = .returned (.tuple #[.agg (rv.cells (rv.row k)), .bool true]) ∧ Below w.heap.size w w' := by
  obtain ⟨j, rfl⟩ : ∃ j, k = j + 1 := ⟨k - 1, by omega⟩
  obtain ⟨r, hr⟩ : ∃ r, rv.row (j + 1) = r := ⟨_, rfl⟩
  have HC : Hid (∀ w B, RefAt w B → w.cell? ⟨B, j * 5, none⟩ = some (.string r.name) ∧ w.cell? ⟨B, j * 5 + 1, none⟩ = some (.string r.form) ∧ w.cell? ⟨B, j * 5 + 2, none⟩ = some (.int .u32 r.a) ∧ w.cell? ⟨B, j * 5 + 3, none⟩ = some (.int .u32 r.b) ∧ w.cell? ⟨B, j * 5 + 4, none⟩ = some (.int .u32 r.c)) := bl.hid (fun w B h => by rw [← hr]; exact h.cells j (by omega))
  rw [hr]
  clear hr
  obtain ⟨x, hx⟩ : ∃ x : Int, ((j + 1 : Nat) : Int) = x := ⟨_, rfl⟩
  rw [hx]
  have hxj : x = j + 1 := by omega
  have x0 : 1 ≤ x := by omega
  have x1 : x ≤ 63 := by omega
  clear hx
  have HX := bl.hid hxj
  clear hxj
  go_enter Tryz.func59, Tryz.ntmps59
  go_wp2_with fail
  refine (refrows _).mono ?_
  rintro e w1 ⟨B, rfl, hB0, hB1, hR, hb⟩
  obtain ⟨r0, hb1, hs1⟩ := one_box hb
  obtain ⟨c0, c1, c2, c3, c4⟩ := HC.out w1 B hR
  have hj : (x - 1).toNat = j := by have := HX.out; omega
  have HR0 := bl.hid r0
  have HB1 := bl.hid hb1
  clear hR hb r0 hb1
  go_wp2_with (refine wpList_store_row rfl 107 _ _ rfl w.heap.size (rv.cells r) rfl rfl 107 _ HR0.out rrow_info rfl (cells_one r) ?_)
  refine bodyPost_ret (kt.results_row_tmp rfl _ _ w.heap.size 107 (rv.cells r) (0, 0) _ rfl (setRow_heap _ _ _ _ _ _ HR0.out) Tryz.underlying107 rfl rrow_info) rfl ?_
  exact ⟨rfl, HB1.out.trans ⟨rfl, rfl, rfl, by simp, fun k hk => setRow_other _ _ _ _ (by omega)⟩⟩
set_option maxHeartbeats 800000 in
theorem rrow_no (x : Int) (w : World) (h : x < 1 ∨ 64 ≤ x) :
    Calls Tryz.prog 59 #[.int .i64 x] w fun e w' => e = .returned (.tuple #[.agg (rv.cells (rv.row 0)), .bool false]) ∧ Below w.heap.size w w' := by
  have h' : x < 1 ∨ (1 ≤ x ∧ 63 < x) := by omega
  clear h
  rcases h' with h | ⟨h0, h⟩
  all_goals
    go_enter Tryz.func59, Tryz.ntmps59
    go_wp2_with fail
    refine (refrows _).mono ?_
    rintro e w1 ⟨B, rfl, hB0, hB1, hR, hb⟩
    obtain ⟨r0, hb1, hs1⟩ := one_box hb
    have HR0 := bl.hid r0
    have HB1 := bl.hid hb1
    clear hR hb r0 hb1
    go_wp2_with (refine wpList_store_row rfl 107 _ _ rfl w.heap.size (rv.cells (rv.row 0)) rfl rfl 107 _ HR0.out rrow_info rfl (cells_one _) ?_)
    refine bodyPost_ret (kt.results_row_tmp rfl _ _ w.heap.size 107 (rv.cells (rv.row 0)) (0, 0) _ rfl (setRow_heap _ _ _ _ _ _ HR0.out) Tryz.underlying107 rfl rrow_info) rfl ?_
    exact ⟨rfl, HB1.out.trans ⟨rfl, rfl, rfl, by simp, fun k hk => setRow_other _ _ _ _ (by omega)⟩⟩
theorem rrow_any (op : Int) (w : World) : Calls Tryz.prog 59 #[.int .i64 op] w fun e w' => e = .returned (.tuple #[.agg (rv.cells (rv.rowI op)), .bool (rv.is op)]) ∧ Below w.heap.size w w' := by
  by_cases h : 1 ≤ op ∧ op < 64
  · obtain ⟨k, rfl⟩ : ∃ k : Nat, op = k := ⟨op.toNat, by omega⟩
    have hi : rv.is k = true := decide_eq_true h
    rw [show rv.rowI k = rv.row k by simp [rv.rowI, hi], hi]
    exact rrow_ok k w (by omega) (by omega)
  · have hi : rv.is op = false := decide_eq_false h
    rw [show rv.rowI op = rv.row 0 by simp [rv.rowI, hi], hi]
    exact rrow_no op w (by omega)
theorem rform_any (op : Int) (w : World) : Calls Tryz.prog 36 #[.int .i64 op] w fun e w' => e = .returned (.string (rv.rowI op).form) ∧ Below w.heap.size w w' := by
  go_enter Tryz.func36, Tryz.ntmps36
  go_wp2_with fail
  refine (rrow_any op _).mono ?_
  obtain ⟨r, hr⟩ : ∃ r, rv.rowI op = r := ⟨_, rfl⟩
  rw [hr]
  have HR := bl.hid hr
  clear hr
  unfold rv.cells
  rintro e w1 ⟨rfl, hb⟩
  go_wp2
  go_ret
  exact ⟨by rw [HR.out]; rfl, hb.alloc hb.size _⟩
end Go.Proofs.YtjjkocklpcdbkaaGreat
namespace Go.Proofs.YtjjkocklpcdbkaaGreat
open Go.RowKit
set_option linter.unusedVariables false
set_option maxRecDepth 100000
namespace rf
/-- may a register be -/
def reg (n : Int) (has : Bool) : Bool := if has then decide (0 ≤ n ∧ n ≤ 31) else decide (n = 0)
/-- may an immediate be, of a form's letter -/
def immOk : Nat → Int → Bool
  | 73, n => decide (-2048 ≤ n ∧ n ≤ 2047)
  | 83, n => decide (-2048 ≤ n ∧ n ≤ 2047)
  | 88, n => decide (0 ≤ n ∧ n ≤ 63)
  | 89, n => decide (0 ≤ n ∧ n ≤ 31)
  | 66, n => decide (-4096 ≤ n ∧ n ≤ 4094 ∧ n.tmod 2 = 0)
  | 85, n => decide (-524288 ≤ n ∧ n ≤ 524287)
  | 74, n => decide (-1048576 ≤ n ∧ n ≤ 1048574 ∧ n.tmod 2 = 0)
  | _, n => decide (n = 0)
end rf
theorem rreg_any (n : Int) (has : Bool) (w : World) : Calls Tryz.prog 116 #[.int .i64 n, .bool has] w fun e w' => e = .returned (.bool (rf.reg n has)) ∧ w = w' := by
  cases has
  · have hR : rf.reg n false = (n == 0) := by
      unfold rf.reg
      by_cases h : n = 0 <;> simp [h]
    rw [hR]
    clear hR
    go_enter Tryz.func116, Tryz.ntmps116
    go_wp2
    go_ret
    exact ⟨rfl, rfl⟩
  · by_cases h : 0 ≤ n ∧ n ≤ 31
    · have hR : rf.reg n true = true := decide_eq_true h
      rw [hR]
      obtain ⟨h1, h2⟩ := h
      clear hR
      go_enter Tryz.func116, Tryz.ntmps116
      go_wp2
      go_ret
      exact ⟨rfl, rfl⟩
    · have hR : rf.reg n true = false := decide_eq_false h
      rw [hR]
      have h' : n < 0 ∨ (0 ≤ n ∧ 31 < n) := by omega
      clear hR h
      rcases h' with h | ⟨h1, h⟩
      · go_enter Tryz.func116, Tryz.ntmps116
        go_wp2
        go_ret
        exact ⟨rfl, rfl⟩
      · have hd : decide (n ≤ 31) = false := decide_eq_false (by omega)
        go_enter Tryz.func116, Tryz.ntmps116
        go_wp2
        go_ret
        exact ⟨rfl, rfl⟩
theorem rabove_X (w : World) : Calls Tryz.prog 100 #[.string ⟨#[88]⟩] w fun e w' => e = .returned (.int .u64 26) ∧ w = w' := by
  go_enter Tryz.func100, Tryz.ntmps100
  go_wp2
  go_ret
  exact ⟨rfl, rfl⟩
theorem rabove_R (w : World) : Calls Tryz.prog 100 #[.string ⟨#[82]⟩] w fun e w' => e = .returned (.int .u64 25) ∧ w = w' := by
  go_enter Tryz.func100, Tryz.ntmps100
  go_wp2
  go_ret
  exact ⟨rfl, rfl⟩
theorem rabove_Y (w : World) : Calls Tryz.prog 100 #[.string ⟨#[89]⟩] w fun e w' => e = .returned (.int .u64 25) ∧ w = w' := by
  go_enter Tryz.func100, Tryz.ntmps100
  go_wp2
  go_ret
  exact ⟨rfl, rfl⟩
namespace rf
/-- some bits of a number, moved to another place -/
def bits (n f m t : Int) : Int := n % 18446744073709551616 / 2 ^ f.toNat % 2 ^ m.toNat * 2 ^ t.toNat % 18446744073709551616 % 4294967296
theorem pow_bd (m : Int) (h : m ≤ 20) : 1 ≤ (2 : Int) ^ m.toNat ∧ (2 : Int) ^ m.toNat ≤ 1048576 := by
  have h1 : 2 ^ m.toNat ≤ 2 ^ 20 := Nat.pow_le_pow_right (by omega) (by omega)
  have h2 := Nat.two_pow_pos m.toNat
  have e : ((2 : Int) ^ m.toNat) = ((2 ^ m.toNat : Nat) : Int) := by simp
  have e20 : (2 : Nat) ^ 20 = 1048576 := rfl
  rw [e20] at h1
  rw [e]
  generalize 2 ^ m.toNat = q at *
  omega
end rf
theorem rbits_any (n f m t : Int) (f0 : 0 ≤ f ∧ f ≤ 20) (m0 : 1 ≤ m ∧ m ≤ 20) (t0 : 0 ≤ t ∧ t ≤ 31) (w : World) : Calls Tryz.prog 118 #[.int .i64 n, .int .i64 f, .int .i64 m, .int .i64 t] w fun e w' => e = .returned (.int .u32 (rf.bits n f m t)) ∧ w = w' := by
  obtain ⟨f0, f1⟩ := f0
  obtain ⟨m0, m1⟩ := m0
  obtain ⟨t0, t1⟩ := t0
  obtain ⟨p0, p1⟩ := rf.pow_bd m m1
  unfold rf.bits
  obtain ⟨u, hu⟩ : ∃ u, n % 18446744073709551616 = u := ⟨_, rfl⟩
  have hw : IntKind.u64.wrap n = u := by rw [← hu]; exact IntKind.wrap_u64 n
  have u0 : 0 ≤ u ∧ u < 18446744073709551616 := by rw [← hu]; exact ⟨Int.emod_nonneg _ (by omega), Int.emod_lt_of_pos _ (by omega)⟩
  rw [hu]
  clear hu
  obtain ⟨u0, u1⟩ := u0
  have n0 : 0 ≤ u / 2 ^ f.toNat := Int.ediv_nonneg u0 (Int.le_of_lt (Int.pow_pos (by omega)))
  obtain ⟨q, hq⟩ : ∃ q : Int, 2 ^ m.toNat = q := ⟨_, rfl⟩
  have hq2 : IntKind.u64.wrap (2 ^ m.toNat) = q := by rw [hq, IntKind.wrap_u64]; omega
  rw [hq] at p0 p1 ⊢
  clear hq
  go_enter Tryz.func118, Tryz.ntmps118
  go_wp2
  go_ret
  exact ⟨bl.ret1 (bl.int_eq (by rw [IntKind.wrap_u64])), rfl⟩
theorem rfield_any (v f m : Int) (f0 : 0 ≤ f ∧ f ≤ 31) (m0 : 1 ≤ m ∧ m ≤ 20) (v0 : 0 ≤ v ∧ v < 4294967296) (w : World) : Calls Tryz.prog 97 #[.int .u32 v, .int .u64 f, .int .u64 m] w fun e w' => e = .returned (.int .i64 (v / 2 ^ f.toNat % 2 ^ m.toNat)) ∧ w = w' := by
  obtain ⟨f0, f1⟩ := f0
  obtain ⟨m0, m1⟩ := m0
  obtain ⟨v0, v1⟩ := v0
  obtain ⟨p0, p1⟩ := rf.pow_bd m m1
  have n0 : 0 ≤ v / 2 ^ f.toNat := Int.ediv_nonneg v0 (Int.le_of_lt (Int.pow_pos (by omega)))
  obtain ⟨q, hq⟩ : ∃ q : Int, 2 ^ m.toNat = q := ⟨_, rfl⟩
  have hq2 : 2 ^ m.toNat % 4294967296 = q := by rw [hq]; omega
  rw [hq] at p0 p1 ⊢
  have HQ := bl.hid hq
  have q0 : ¬ q = 0 := by omega
  clear hq
  go_enter Tryz.func97, Tryz.ntmps97
  go_wp2
  have b0 := Int.emod_nonneg (v / 2 ^ f.toNat) (show q ≠ 0 by omega)
  have b1 := Int.emod_lt_of_pos (v / 2 ^ f.toNat) (show 0 < q by omega)
  go_ret
  exact ⟨bl.ret1 (bl.int_eq (IntWalk.wrap64_in _ (by omega))), rfl⟩
end Go.Proofs.YtjjkocklpcdbkaaGreat
namespace Go.Proofs.YtjjkocklpcdbkaaGreat
open Go.RowKit
set_option linter.unusedVariables false
set_option maxRecDepth 100000
namespace rf
/-- a number at whose top bit c stands, signed -/
def sg (c n : Int) : Int := if c ≤ n then n - 2 * c else n
/-- an immediate's bits in a word -/
def immW : Nat → Int → Int
  | 73, n => bits n 0 12 20
  | 88, n => bits n 0 6 20
  | 89, n => bits n 0 5 20
  | 83, n => (bits n 0 5 7 + bits n 5 7 25) % 4294967296
  | 66, n => (bits n 11 1 7 + bits n 1 4 8 + bits n 5 6 25 + bits n 12 1 31) % 4294967296
  | 85, n => bits n 0 20 12
  | 74, n => (bits n 12 8 12 + bits n 11 1 20 + bits n 1 10 21 + bits n 20 1 31) % 4294967296
  | _, _ => 0
/-- the immediate of a word -/
def toldV : Nat → Int → Int
  | 73, v => sg 2048 (v / 1048576 % 4096)
  | 88, v => v / 1048576 % 64
  | 89, v => v / 1048576 % 32
  | 83, v => sg 2048 (v / 128 % 32 + v / 33554432 % 128 * 32)
  | 66, v => sg 4096 (v / 256 % 16 * 2 + v / 33554432 % 64 * 32 + v / 128 % 2 * 2048 + v / 2147483648 % 2 * 4096)
  | 85, v => sg 524288 (v / 4096 % 1048576)
  | 74, v => sg 1048576 (v / 2097152 % 1024 * 2 + v / 1048576 % 2 * 2048 + v / 4096 % 256 * 4096 + v / 2147483648 % 2 * 1048576)
  | _, _ => 0
end rf
theorem rfield_at (v f m F M : Int) (hF : (2 : Int) ^ f.toNat = F) (hM : (2 : Int) ^ m.toNat = M) (f0 : 0 ≤ f ∧ f ≤ 31) (m0 : 1 ≤ m ∧ m ≤ 20) (v0 : 0 ≤ v ∧ v < 4294967296) (w : World) : Calls Tryz.prog 97 #[.int .u32 v, .int .u64 f, .int .u64 m] w fun e w' => e = .returned (.int .i64 (v / F % M)) ∧ w = w' := by
  have := rfield_any v f m f0 m0 v0 w
  rwa [hF, hM] at this
theorem rsigned_12 (n : Int) (n0 : 0 ≤ n) (n1 : n < 4096) (w : World) : Calls Tryz.prog 115 #[.int .i64 n, .int .u64 12] w fun e w' => e = .returned (.int .i64 (rf.sg 2048 n)) ∧ w = w' := by
  by_cases h : 2048 ≤ n
  · have hR : rf.sg 2048 n = n - 4096 := by unfold rf.sg; rw [if_pos h]; omega
    rw [hR]
    clear hR
    go_enter Tryz.func115, Tryz.ntmps115
    go_wp2
    go_ret
    exact ⟨rfl, rfl⟩
  · have hR : rf.sg 2048 n = n := by unfold rf.sg; rw [if_neg h]
    rw [hR]
    clear hR
    go_enter Tryz.func115, Tryz.ntmps115
    go_wp2
    go_ret
    exact ⟨rfl, rfl⟩
theorem rsigned_13 (n : Int) (n0 : 0 ≤ n) (n1 : n < 8192) (w : World) : Calls Tryz.prog 115 #[.int .i64 n, .int .u64 13] w fun e w' => e = .returned (.int .i64 (rf.sg 4096 n)) ∧ w = w' := by
  by_cases h : 4096 ≤ n
  · have hR : rf.sg 4096 n = n - 8192 := by unfold rf.sg; rw [if_pos h]; omega
    rw [hR]
    clear hR
    go_enter Tryz.func115, Tryz.ntmps115
    go_wp2
    go_ret
    exact ⟨rfl, rfl⟩
  · have hR : rf.sg 4096 n = n := by unfold rf.sg; rw [if_neg h]
    rw [hR]
    clear hR
    go_enter Tryz.func115, Tryz.ntmps115
    go_wp2
    go_ret
    exact ⟨rfl, rfl⟩
theorem rsigned_20 (n : Int) (n0 : 0 ≤ n) (n1 : n < 1048576) (w : World) : Calls Tryz.prog 115 #[.int .i64 n, .int .u64 20] w fun e w' => e = .returned (.int .i64 (rf.sg 524288 n)) ∧ w = w' := by
  by_cases h : 524288 ≤ n
  · have hR : rf.sg 524288 n = n - 1048576 := by unfold rf.sg; rw [if_pos h]; omega
    rw [hR]
    clear hR
    go_enter Tryz.func115, Tryz.ntmps115
    go_wp2
    go_ret
    exact ⟨rfl, rfl⟩
  · have hR : rf.sg 524288 n = n := by unfold rf.sg; rw [if_neg h]
    rw [hR]
    clear hR
    go_enter Tryz.func115, Tryz.ntmps115
    go_wp2
    go_ret
    exact ⟨rfl, rfl⟩
theorem rsigned_21 (n : Int) (n0 : 0 ≤ n) (n1 : n < 2097152) (w : World) : Calls Tryz.prog 115 #[.int .i64 n, .int .u64 21] w fun e w' => e = .returned (.int .i64 (rf.sg 1048576 n)) ∧ w = w' := by
  by_cases h : 1048576 ≤ n
  · have hR : rf.sg 1048576 n = n - 2097152 := by unfold rf.sg; rw [if_pos h]; omega
    rw [hR]
    clear hR
    go_enter Tryz.func115, Tryz.ntmps115
    go_wp2
    go_ret
    exact ⟨rfl, rfl⟩
  · have hR : rf.sg 1048576 n = n := by unfold rf.sg; rw [if_neg h]
    rw [hR]
    clear hR
    go_enter Tryz.func115, Tryz.ntmps115
    go_wp2
    go_ret
    exact ⟨rfl, rfl⟩
theorem rimmediate_R (n : Int) (w : World) : Calls Tryz.prog 117 #[.string ⟨#[82]⟩, .int .i64 n] w fun e w' => e = .returned (.bool (rf.immOk 82 n)) ∧ w = w' := by
  have hR : rf.immOk 82 n = (n == 0) := by
    show decide (n = 0) = _
    by_cases h : n = 0 <;> simp [h]
  rw [hR]
  clear hR
  go_enter Tryz.func117, Tryz.ntmps117
  go_wp2
  go_ret
  exact ⟨rfl, rfl⟩
theorem rimm_R (n : Int) (w : World) : Calls Tryz.prog 99 #[.string ⟨#[82]⟩, .int .i64 n] w fun e w' => e = .returned (.int .u32 (rf.immW 82 n)) ∧ w = w' := by
  go_enter Tryz.func99, Tryz.ntmps99
  go_wp2
  go_ret
  exact ⟨rfl, rfl⟩
theorem rtold_R (v : Int) (hv : 0 ≤ v ∧ v < 4294967296) (w : World) : Calls Tryz.prog 96 #[.string ⟨#[82]⟩, .int .u32 v] w fun e w' => e = .returned (.int .i64 (rf.toldV 82 v)) ∧ w = w' := by
  go_enter Tryz.func96, Tryz.ntmps96
  go_wp2
  go_ret
  exact ⟨rfl, rfl⟩
theorem rimmediate_I (n : Int) (w : World) : Calls Tryz.prog 117 #[.string ⟨#[73]⟩, .int .i64 n] w fun e w' => e = .returned (.bool (rf.immOk 73 n)) ∧ w = w' := by
  by_cases h : -2048 ≤ n ∧ n ≤ 2047
  · have hR : rf.immOk 73 n = true := decide_eq_true h
    rw [hR]
    clear hR
    obtain ⟨h1, h2⟩ := h
    go_enter Tryz.func117, Tryz.ntmps117
    go_wp2
    go_ret
    exact ⟨rfl, rfl⟩
  · have hR : rf.immOk 73 n = false := decide_eq_false h
    rw [hR]
    clear hR
    by_cases h1 : n < -2048
    · clear h
      go_enter Tryz.func117, Tryz.ntmps117
      go_wp2
      go_ret
      exact ⟨rfl, rfl⟩
    · have hd : decide (n ≤ 2047) = false := decide_eq_false (by omega)
      have h0 : -2048 ≤ n := by omega
      have h2 : 2047 < n := by omega
      clear h h1
      go_enter Tryz.func117, Tryz.ntmps117
      go_wp2
      go_ret
      exact ⟨rfl, rfl⟩
theorem rimm_I (n : Int) (w : World) : Calls Tryz.prog 99 #[.string ⟨#[73]⟩, .int .i64 n] w fun e w' => e = .returned (.int .u32 (rf.immW 73 n)) ∧ w = w' := by
  go_enter Tryz.func99, Tryz.ntmps99
  go_wp2_with fail
  refine (rbits_any _ _ _ _ (by omega) (by omega) (by omega) _).mono ?_
  rintro e w' ⟨rfl, rfl⟩
  go_wp2
  go_ret
  exact ⟨rfl, rfl⟩
theorem rtold_I (v : Int) (hv : 0 ≤ v ∧ v < 4294967296) (w : World) : Calls Tryz.prog 96 #[.string ⟨#[73]⟩, .int .u32 v] w fun e w' => e = .returned (.int .i64 (rf.toldV 73 v)) ∧ w = w' := by
  simp only [rf.toldV]
  have hF0 := fun w => rfield_at v 20 12 1048576 4096 (by decide) (by decide) (by omega) (by omega) hv w
  obtain ⟨x0, hx0⟩ : ∃ x, v / 1048576 % 4096 = x := ⟨_, rfl⟩
  have b0 : 0 ≤ x0 := by rw [← hx0]; exact Int.emod_nonneg _ (by omega)
  have c0 : x0 < 4096 := by rw [← hx0]; exact Int.emod_lt_of_pos _ (by omega)
  rw [hx0] at hF0 ⊢
  have HF0 := bl.hid hF0
  clear hx0 hF0
  clear hv
  go_enter Tryz.func96, Tryz.ntmps96
  go_wp2_with fail
  refine (HF0.out _).mono ?_
  rintro e w' ⟨rfl, rfl⟩
  go_wp2_with fail
  refine (rsigned_12 _ (by omega) (by omega) _).mono ?_
  rintro e w' ⟨rfl, rfl⟩
  go_wp2
  go_ret
  exact ⟨rfl, rfl⟩
theorem rimmediate_X (n : Int) (w : World) : Calls Tryz.prog 117 #[.string ⟨#[88]⟩, .int .i64 n] w fun e w' => e = .returned (.bool (rf.immOk 88 n)) ∧ w = w' := by
  by_cases h : 0 ≤ n ∧ n ≤ 63
  · have hR : rf.immOk 88 n = true := decide_eq_true h
    rw [hR]
    clear hR
    obtain ⟨h1, h2⟩ := h
    go_enter Tryz.func117, Tryz.ntmps117
    go_wp2
    go_ret
    exact ⟨rfl, rfl⟩
  · have hR : rf.immOk 88 n = false := decide_eq_false h
    rw [hR]
    clear hR
    by_cases h1 : n < 0
    · clear h
      go_enter Tryz.func117, Tryz.ntmps117
      go_wp2
      go_ret
      exact ⟨rfl, rfl⟩
    · have hd : decide (n ≤ 63) = false := decide_eq_false (by omega)
      have h0 : 0 ≤ n := by omega
      have h2 : 63 < n := by omega
      clear h h1
      go_enter Tryz.func117, Tryz.ntmps117
      go_wp2
      go_ret
      exact ⟨rfl, rfl⟩
theorem rimm_X (n : Int) (w : World) : Calls Tryz.prog 99 #[.string ⟨#[88]⟩, .int .i64 n] w fun e w' => e = .returned (.int .u32 (rf.immW 88 n)) ∧ w = w' := by
  go_enter Tryz.func99, Tryz.ntmps99
  go_wp2_with fail
  refine (rbits_any _ _ _ _ (by omega) (by omega) (by omega) _).mono ?_
  rintro e w' ⟨rfl, rfl⟩
  go_wp2
  go_ret
  exact ⟨rfl, rfl⟩
theorem rtold_X (v : Int) (hv : 0 ≤ v ∧ v < 4294967296) (w : World) : Calls Tryz.prog 96 #[.string ⟨#[88]⟩, .int .u32 v] w fun e w' => e = .returned (.int .i64 (rf.toldV 88 v)) ∧ w = w' := by
  simp only [rf.toldV]
  have hF0 := fun w => rfield_at v 20 6 1048576 64 (by decide) (by decide) (by omega) (by omega) hv w
  obtain ⟨x0, hx0⟩ : ∃ x, v / 1048576 % 64 = x := ⟨_, rfl⟩
  have b0 : 0 ≤ x0 := by rw [← hx0]; exact Int.emod_nonneg _ (by omega)
  have c0 : x0 < 64 := by rw [← hx0]; exact Int.emod_lt_of_pos _ (by omega)
  rw [hx0] at hF0 ⊢
  have HF0 := bl.hid hF0
  clear hx0 hF0
  clear hv
  go_enter Tryz.func96, Tryz.ntmps96
  go_wp2_with fail
  refine (HF0.out _).mono ?_
  rintro e w' ⟨rfl, rfl⟩
  go_wp2
  go_ret
  exact ⟨rfl, rfl⟩
theorem rimmediate_Y (n : Int) (w : World) : Calls Tryz.prog 117 #[.string ⟨#[89]⟩, .int .i64 n] w fun e w' => e = .returned (.bool (rf.immOk 89 n)) ∧ w = w' := by
  by_cases h : 0 ≤ n ∧ n ≤ 31
  · have hR : rf.immOk 89 n = true := decide_eq_true h
    rw [hR]
    clear hR
    obtain ⟨h1, h2⟩ := h
    go_enter Tryz.func117, Tryz.ntmps117
    go_wp2
    go_ret
    exact ⟨rfl, rfl⟩
  · have hR : rf.immOk 89 n = false := decide_eq_false h
    rw [hR]
    clear hR
    by_cases h1 : n < 0
    · clear h
      go_enter Tryz.func117, Tryz.ntmps117
      go_wp2
      go_ret
      exact ⟨rfl, rfl⟩
    · have hd : decide (n ≤ 31) = false := decide_eq_false (by omega)
      have h0 : 0 ≤ n := by omega
      have h2 : 31 < n := by omega
      clear h h1
      go_enter Tryz.func117, Tryz.ntmps117
      go_wp2
      go_ret
      exact ⟨rfl, rfl⟩
theorem rimm_Y (n : Int) (w : World) : Calls Tryz.prog 99 #[.string ⟨#[89]⟩, .int .i64 n] w fun e w' => e = .returned (.int .u32 (rf.immW 89 n)) ∧ w = w' := by
  go_enter Tryz.func99, Tryz.ntmps99
  go_wp2_with fail
  refine (rbits_any _ _ _ _ (by omega) (by omega) (by omega) _).mono ?_
  rintro e w' ⟨rfl, rfl⟩
  go_wp2
  go_ret
  exact ⟨rfl, rfl⟩
theorem rtold_Y (v : Int) (hv : 0 ≤ v ∧ v < 4294967296) (w : World) : Calls Tryz.prog 96 #[.string ⟨#[89]⟩, .int .u32 v] w fun e w' => e = .returned (.int .i64 (rf.toldV 89 v)) ∧ w = w' := by
  simp only [rf.toldV]
  have hF0 := fun w => rfield_at v 20 5 1048576 32 (by decide) (by decide) (by omega) (by omega) hv w
  obtain ⟨x0, hx0⟩ : ∃ x, v / 1048576 % 32 = x := ⟨_, rfl⟩
  have b0 : 0 ≤ x0 := by rw [← hx0]; exact Int.emod_nonneg _ (by omega)
  have c0 : x0 < 32 := by rw [← hx0]; exact Int.emod_lt_of_pos _ (by omega)
  rw [hx0] at hF0 ⊢
  have HF0 := bl.hid hF0
  clear hx0 hF0
  clear hv
  go_enter Tryz.func96, Tryz.ntmps96
  go_wp2_with fail
  refine (HF0.out _).mono ?_
  rintro e w' ⟨rfl, rfl⟩
  go_wp2
  go_ret
  exact ⟨rfl, rfl⟩
theorem rimmediate_S (n : Int) (w : World) : Calls Tryz.prog 117 #[.string ⟨#[83]⟩, .int .i64 n] w fun e w' => e = .returned (.bool (rf.immOk 83 n)) ∧ w = w' := by
  by_cases h : -2048 ≤ n ∧ n ≤ 2047
  · have hR : rf.immOk 83 n = true := decide_eq_true h
    rw [hR]
    clear hR
    obtain ⟨h1, h2⟩ := h
    go_enter Tryz.func117, Tryz.ntmps117
    go_wp2
    go_ret
    exact ⟨rfl, rfl⟩
  · have hR : rf.immOk 83 n = false := decide_eq_false h
    rw [hR]
    clear hR
    by_cases h1 : n < -2048
    · clear h
      go_enter Tryz.func117, Tryz.ntmps117
      go_wp2
      go_ret
      exact ⟨rfl, rfl⟩
    · have hd : decide (n ≤ 2047) = false := decide_eq_false (by omega)
      have h0 : -2048 ≤ n := by omega
      have h2 : 2047 < n := by omega
      clear h h1
      go_enter Tryz.func117, Tryz.ntmps117
      go_wp2
      go_ret
      exact ⟨rfl, rfl⟩
theorem rimm_S (n : Int) (w : World) : Calls Tryz.prog 99 #[.string ⟨#[83]⟩, .int .i64 n] w fun e w' => e = .returned (.int .u32 (rf.immW 83 n)) ∧ w = w' := by
  go_enter Tryz.func99, Tryz.ntmps99
  go_wp2_with fail
  refine (rbits_any _ _ _ _ (by omega) (by omega) (by omega) _).mono ?_
  rintro e w' ⟨rfl, rfl⟩
  go_wp2_with fail
  refine (rbits_any _ _ _ _ (by omega) (by omega) (by omega) _).mono ?_
  rintro e w' ⟨rfl, rfl⟩
  go_wp2
  go_ret
  exact ⟨bl.ret1 (bl.int_eq (by simp only [rf.immW] <;> omega)), rfl⟩
theorem rtold_S (v : Int) (hv : 0 ≤ v ∧ v < 4294967296) (w : World) : Calls Tryz.prog 96 #[.string ⟨#[83]⟩, .int .u32 v] w fun e w' => e = .returned (.int .i64 (rf.toldV 83 v)) ∧ w = w' := by
  simp only [rf.toldV]
  have hF0 := fun w => rfield_at v 7 5 128 32 (by decide) (by decide) (by omega) (by omega) hv w
  obtain ⟨x0, hx0⟩ : ∃ x, v / 128 % 32 = x := ⟨_, rfl⟩
  have b0 : 0 ≤ x0 := by rw [← hx0]; exact Int.emod_nonneg _ (by omega)
  have c0 : x0 < 32 := by rw [← hx0]; exact Int.emod_lt_of_pos _ (by omega)
  rw [hx0] at hF0 ⊢
  have HF0 := bl.hid hF0
  clear hx0 hF0
  have hF1 := fun w => rfield_at v 25 7 33554432 128 (by decide) (by decide) (by omega) (by omega) hv w
  obtain ⟨x1, hx1⟩ : ∃ x, v / 33554432 % 128 = x := ⟨_, rfl⟩
  have b1 : 0 ≤ x1 := by rw [← hx1]; exact Int.emod_nonneg _ (by omega)
  have c1 : x1 < 128 := by rw [← hx1]; exact Int.emod_lt_of_pos _ (by omega)
  rw [hx1] at hF1 ⊢
  have HF1 := bl.hid hF1
  clear hx1 hF1
  clear hv
  go_enter Tryz.func96, Tryz.ntmps96
  go_wp2_with fail
  refine (HF0.out _).mono ?_
  rintro e w' ⟨rfl, rfl⟩
  go_wp2_with fail
  refine (HF1.out _).mono ?_
  rintro e w' ⟨rfl, rfl⟩
  go_wp2_with fail
  refine (rsigned_12 _ (by omega) (by omega) _).mono ?_
  rintro e w' ⟨rfl, rfl⟩
  go_wp2
  go_ret
  exact ⟨rfl, rfl⟩
theorem rimmediate_B (n : Int) (w : World) : Calls Tryz.prog 117 #[.string ⟨#[66]⟩, .int .i64 n] w fun e w' => e = .returned (.bool (rf.immOk 66 n)) ∧ w = w' := by
  by_cases h : -4096 ≤ n ∧ n ≤ 4094 ∧ n.tmod 2 = 0
  · have hR : rf.immOk 66 n = true := decide_eq_true h
    rw [hR]
    clear hR
    obtain ⟨h1, h2, h3⟩ := h
    have h4 : (n.tmod 2 == 0) = true := by simpa using h3
    clear h3
    go_enter Tryz.func117, Tryz.ntmps117
    go_wp2
    go_ret
    exact ⟨rfl, rfl⟩
  · have hR : rf.immOk 66 n = false := decide_eq_false h
    rw [hR]
    clear hR
    by_cases h1 : n < -4096
    · clear h
      go_enter Tryz.func117, Tryz.ntmps117
      go_wp2
      go_ret
      exact ⟨rfl, rfl⟩
    · by_cases h2 : 4094 < n
      · clear h
        have hd : decide (n ≤ 4094) = false := decide_eq_false (by omega)
        have h0 : -4096 ≤ n := by omega
        clear h1
        go_enter Tryz.func117, Tryz.ntmps117
        go_wp2
        go_ret
        exact ⟨rfl, rfl⟩
      · have h4 : (n.tmod 2 == 0) = false := by cases hq : n.tmod 2 == 0 with | false => rfl | true => exact absurd ⟨by omega, by omega, by simpa using hq⟩ h
        have h0 : -4096 ≤ n := by omega
        have h5 : n ≤ 4094 := by omega
        clear h h1 h2
        go_enter Tryz.func117, Tryz.ntmps117
        go_wp2
        go_ret
        exact ⟨rfl, rfl⟩
theorem rimm_B (n : Int) (w : World) : Calls Tryz.prog 99 #[.string ⟨#[66]⟩, .int .i64 n] w fun e w' => e = .returned (.int .u32 (rf.immW 66 n)) ∧ w = w' := by
  go_enter Tryz.func99, Tryz.ntmps99
  go_wp2_with fail
  refine (rbits_any _ _ _ _ (by omega) (by omega) (by omega) _).mono ?_
  rintro e w' ⟨rfl, rfl⟩
  go_wp2_with fail
  refine (rbits_any _ _ _ _ (by omega) (by omega) (by omega) _).mono ?_
  rintro e w' ⟨rfl, rfl⟩
  go_wp2_with fail
  refine (rbits_any _ _ _ _ (by omega) (by omega) (by omega) _).mono ?_
  rintro e w' ⟨rfl, rfl⟩
  go_wp2_with fail
  refine (rbits_any _ _ _ _ (by omega) (by omega) (by omega) _).mono ?_
  rintro e w' ⟨rfl, rfl⟩
  go_wp2
  go_ret
  exact ⟨bl.ret1 (bl.int_eq (by simp only [rf.immW] <;> omega)), rfl⟩
theorem rtold_B (v : Int) (hv : 0 ≤ v ∧ v < 4294967296) (w : World) : Calls Tryz.prog 96 #[.string ⟨#[66]⟩, .int .u32 v] w fun e w' => e = .returned (.int .i64 (rf.toldV 66 v)) ∧ w = w' := by
  simp only [rf.toldV]
  have hF0 := fun w => rfield_at v 8 4 256 16 (by decide) (by decide) (by omega) (by omega) hv w
  obtain ⟨x0, hx0⟩ : ∃ x, v / 256 % 16 = x := ⟨_, rfl⟩
  have b0 : 0 ≤ x0 := by rw [← hx0]; exact Int.emod_nonneg _ (by omega)
  have c0 : x0 < 16 := by rw [← hx0]; exact Int.emod_lt_of_pos _ (by omega)
  rw [hx0] at hF0 ⊢
  have HF0 := bl.hid hF0
  clear hx0 hF0
  have hF1 := fun w => rfield_at v 25 6 33554432 64 (by decide) (by decide) (by omega) (by omega) hv w
  obtain ⟨x1, hx1⟩ : ∃ x, v / 33554432 % 64 = x := ⟨_, rfl⟩
  have b1 : 0 ≤ x1 := by rw [← hx1]; exact Int.emod_nonneg _ (by omega)
  have c1 : x1 < 64 := by rw [← hx1]; exact Int.emod_lt_of_pos _ (by omega)
  rw [hx1] at hF1 ⊢
  have HF1 := bl.hid hF1
  clear hx1 hF1
  have hF2 := fun w => rfield_at v 7 1 128 2 (by decide) (by decide) (by omega) (by omega) hv w
  obtain ⟨x2, hx2⟩ : ∃ x, v / 128 % 2 = x := ⟨_, rfl⟩
  have b2 : 0 ≤ x2 := by rw [← hx2]; exact Int.emod_nonneg _ (by omega)
  have c2 : x2 < 2 := by rw [← hx2]; exact Int.emod_lt_of_pos _ (by omega)
  rw [hx2] at hF2 ⊢
  have HF2 := bl.hid hF2
  clear hx2 hF2
  have hF3 := fun w => rfield_at v 31 1 2147483648 2 (by decide) (by decide) (by omega) (by omega) hv w
  obtain ⟨x3, hx3⟩ : ∃ x, v / 2147483648 % 2 = x := ⟨_, rfl⟩
  have b3 : 0 ≤ x3 := by rw [← hx3]; exact Int.emod_nonneg _ (by omega)
  have c3 : x3 < 2 := by rw [← hx3]; exact Int.emod_lt_of_pos _ (by omega)
  rw [hx3] at hF3 ⊢
  have HF3 := bl.hid hF3
  clear hx3 hF3
  clear hv
  go_enter Tryz.func96, Tryz.ntmps96
  go_wp2_with fail
  refine (HF0.out _).mono ?_
  rintro e w' ⟨rfl, rfl⟩
  go_wp2_with fail
  refine (HF1.out _).mono ?_
  rintro e w' ⟨rfl, rfl⟩
  go_wp2_with fail
  refine (HF2.out _).mono ?_
  rintro e w' ⟨rfl, rfl⟩
  go_wp2_with fail
  refine (HF3.out _).mono ?_
  rintro e w' ⟨rfl, rfl⟩
  go_wp2_with fail
  refine (rsigned_13 _ (by omega) (by omega) _).mono ?_
  rintro e w' ⟨rfl, rfl⟩
  go_wp2
  go_ret
  exact ⟨rfl, rfl⟩
theorem rimmediate_U (n : Int) (w : World) : Calls Tryz.prog 117 #[.string ⟨#[85]⟩, .int .i64 n] w fun e w' => e = .returned (.bool (rf.immOk 85 n)) ∧ w = w' := by
  by_cases h : -524288 ≤ n ∧ n ≤ 524287
  · have hR : rf.immOk 85 n = true := decide_eq_true h
    rw [hR]
    clear hR
    obtain ⟨h1, h2⟩ := h
    go_enter Tryz.func117, Tryz.ntmps117
    go_wp2
    go_ret
    exact ⟨rfl, rfl⟩
  · have hR : rf.immOk 85 n = false := decide_eq_false h
    rw [hR]
    clear hR
    by_cases h1 : n < -524288
    · clear h
      go_enter Tryz.func117, Tryz.ntmps117
      go_wp2
      go_ret
      exact ⟨rfl, rfl⟩
    · have hd : decide (n ≤ 524287) = false := decide_eq_false (by omega)
      have h0 : -524288 ≤ n := by omega
      have h2 : 524287 < n := by omega
      clear h h1
      go_enter Tryz.func117, Tryz.ntmps117
      go_wp2
      go_ret
      exact ⟨rfl, rfl⟩
theorem rimm_U (n : Int) (w : World) : Calls Tryz.prog 99 #[.string ⟨#[85]⟩, .int .i64 n] w fun e w' => e = .returned (.int .u32 (rf.immW 85 n)) ∧ w = w' := by
  go_enter Tryz.func99, Tryz.ntmps99
  go_wp2_with fail
  refine (rbits_any _ _ _ _ (by omega) (by omega) (by omega) _).mono ?_
  rintro e w' ⟨rfl, rfl⟩
  go_wp2
  go_ret
  exact ⟨rfl, rfl⟩
theorem rtold_U (v : Int) (hv : 0 ≤ v ∧ v < 4294967296) (w : World) : Calls Tryz.prog 96 #[.string ⟨#[85]⟩, .int .u32 v] w fun e w' => e = .returned (.int .i64 (rf.toldV 85 v)) ∧ w = w' := by
  simp only [rf.toldV]
  have hF0 := fun w => rfield_at v 12 20 4096 1048576 (by decide) (by decide) (by omega) (by omega) hv w
  obtain ⟨x0, hx0⟩ : ∃ x, v / 4096 % 1048576 = x := ⟨_, rfl⟩
  have b0 : 0 ≤ x0 := by rw [← hx0]; exact Int.emod_nonneg _ (by omega)
  have c0 : x0 < 1048576 := by rw [← hx0]; exact Int.emod_lt_of_pos _ (by omega)
  rw [hx0] at hF0 ⊢
  have HF0 := bl.hid hF0
  clear hx0 hF0
  clear hv
  go_enter Tryz.func96, Tryz.ntmps96
  go_wp2_with fail
  refine (HF0.out _).mono ?_
  rintro e w' ⟨rfl, rfl⟩
  go_wp2_with fail
  refine (rsigned_20 _ (by omega) (by omega) _).mono ?_
  rintro e w' ⟨rfl, rfl⟩
  go_wp2
  go_ret
  exact ⟨rfl, rfl⟩
theorem rimmediate_J (n : Int) (w : World) : Calls Tryz.prog 117 #[.string ⟨#[74]⟩, .int .i64 n] w fun e w' => e = .returned (.bool (rf.immOk 74 n)) ∧ w = w' := by
  by_cases h : -1048576 ≤ n ∧ n ≤ 1048574 ∧ n.tmod 2 = 0
  · have hR : rf.immOk 74 n = true := decide_eq_true h
    rw [hR]
    clear hR
    obtain ⟨h1, h2, h3⟩ := h
    have h4 : (n.tmod 2 == 0) = true := by simpa using h3
    clear h3
    go_enter Tryz.func117, Tryz.ntmps117
    go_wp2
    go_ret
    exact ⟨rfl, rfl⟩
  · have hR : rf.immOk 74 n = false := decide_eq_false h
    rw [hR]
    clear hR
    by_cases h1 : n < -1048576
    · clear h
      go_enter Tryz.func117, Tryz.ntmps117
      go_wp2
      go_ret
      exact ⟨rfl, rfl⟩
    · by_cases h2 : 1048574 < n
      · clear h
        have hd : decide (n ≤ 1048574) = false := decide_eq_false (by omega)
        have h0 : -1048576 ≤ n := by omega
        clear h1
        go_enter Tryz.func117, Tryz.ntmps117
        go_wp2
        go_ret
        exact ⟨rfl, rfl⟩
      · have h4 : (n.tmod 2 == 0) = false := by cases hq : n.tmod 2 == 0 with | false => rfl | true => exact absurd ⟨by omega, by omega, by simpa using hq⟩ h
        have h0 : -1048576 ≤ n := by omega
        have h5 : n ≤ 1048574 := by omega
        clear h h1 h2
        go_enter Tryz.func117, Tryz.ntmps117
        go_wp2
        go_ret
        exact ⟨rfl, rfl⟩
theorem rimm_J (n : Int) (w : World) : Calls Tryz.prog 99 #[.string ⟨#[74]⟩, .int .i64 n] w fun e w' => e = .returned (.int .u32 (rf.immW 74 n)) ∧ w = w' := by
  go_enter Tryz.func99, Tryz.ntmps99
  go_wp2_with fail
  refine (rbits_any _ _ _ _ (by omega) (by omega) (by omega) _).mono ?_
  rintro e w' ⟨rfl, rfl⟩
  go_wp2_with fail
  refine (rbits_any _ _ _ _ (by omega) (by omega) (by omega) _).mono ?_
  rintro e w' ⟨rfl, rfl⟩
  go_wp2_with fail
  refine (rbits_any _ _ _ _ (by omega) (by omega) (by omega) _).mono ?_
  rintro e w' ⟨rfl, rfl⟩
  go_wp2_with fail
  refine (rbits_any _ _ _ _ (by omega) (by omega) (by omega) _).mono ?_
  rintro e w' ⟨rfl, rfl⟩
  go_wp2
  go_ret
  exact ⟨bl.ret1 (bl.int_eq (by simp only [rf.immW] <;> omega)), rfl⟩
theorem rtold_J (v : Int) (hv : 0 ≤ v ∧ v < 4294967296) (w : World) : Calls Tryz.prog 96 #[.string ⟨#[74]⟩, .int .u32 v] w fun e w' => e = .returned (.int .i64 (rf.toldV 74 v)) ∧ w = w' := by
  simp only [rf.toldV]
  have hF0 := fun w => rfield_at v 21 10 2097152 1024 (by decide) (by decide) (by omega) (by omega) hv w
  obtain ⟨x0, hx0⟩ : ∃ x, v / 2097152 % 1024 = x := ⟨_, rfl⟩
  have b0 : 0 ≤ x0 := by rw [← hx0]; exact Int.emod_nonneg _ (by omega)
  have c0 : x0 < 1024 := by rw [← hx0]; exact Int.emod_lt_of_pos _ (by omega)
  rw [hx0] at hF0 ⊢
  have HF0 := bl.hid hF0
  clear hx0 hF0
  have hF1 := fun w => rfield_at v 20 1 1048576 2 (by decide) (by decide) (by omega) (by omega) hv w
  obtain ⟨x1, hx1⟩ : ∃ x, v / 1048576 % 2 = x := ⟨_, rfl⟩
  have b1 : 0 ≤ x1 := by rw [← hx1]; exact Int.emod_nonneg _ (by omega)
  have c1 : x1 < 2 := by rw [← hx1]; exact Int.emod_lt_of_pos _ (by omega)
  rw [hx1] at hF1 ⊢
  have HF1 := bl.hid hF1
  clear hx1 hF1
  have hF2 := fun w => rfield_at v 12 8 4096 256 (by decide) (by decide) (by omega) (by omega) hv w
  obtain ⟨x2, hx2⟩ : ∃ x, v / 4096 % 256 = x := ⟨_, rfl⟩
  have b2 : 0 ≤ x2 := by rw [← hx2]; exact Int.emod_nonneg _ (by omega)
  have c2 : x2 < 256 := by rw [← hx2]; exact Int.emod_lt_of_pos _ (by omega)
  rw [hx2] at hF2 ⊢
  have HF2 := bl.hid hF2
  clear hx2 hF2
  have hF3 := fun w => rfield_at v 31 1 2147483648 2 (by decide) (by decide) (by omega) (by omega) hv w
  obtain ⟨x3, hx3⟩ : ∃ x, v / 2147483648 % 2 = x := ⟨_, rfl⟩
  have b3 : 0 ≤ x3 := by rw [← hx3]; exact Int.emod_nonneg _ (by omega)
  have c3 : x3 < 2 := by rw [← hx3]; exact Int.emod_lt_of_pos _ (by omega)
  rw [hx3] at hF3 ⊢
  have HF3 := bl.hid hF3
  clear hx3 hF3
  clear hv
  go_enter Tryz.func96, Tryz.ntmps96
  go_wp2_with fail
  refine (HF0.out _).mono ?_
  rintro e w' ⟨rfl, rfl⟩
  go_wp2_with fail
  refine (HF1.out _).mono ?_
  rintro e w' ⟨rfl, rfl⟩
  go_wp2_with fail
  refine (HF2.out _).mono ?_
  rintro e w' ⟨rfl, rfl⟩
  go_wp2_with fail
  refine (HF3.out _).mono ?_
  rintro e w' ⟨rfl, rfl⟩
  go_wp2_with fail
  refine (rsigned_21 _ (by omega) (by omega) _).mono ?_
  rintro e w' ⟨rfl, rfl⟩
  go_wp2
  go_ret
  exact ⟨rfl, rfl⟩
theorem rimmediate_E (n : Int) (w : World) : Calls Tryz.prog 117 #[.string ⟨#[69]⟩, .int .i64 n] w fun e w' => e = .returned (.bool (rf.immOk 69 n)) ∧ w = w' := by
  have hR : rf.immOk 69 n = (n == 0) := by
    show decide (n = 0) = _
    by_cases h : n = 0 <;> simp [h]
  rw [hR]
  clear hR
  go_enter Tryz.func117, Tryz.ntmps117
  go_wp2
  go_ret
  exact ⟨rfl, rfl⟩
theorem rimm_E (n : Int) (w : World) : Calls Tryz.prog 99 #[.string ⟨#[69]⟩, .int .i64 n] w fun e w' => e = .returned (.int .u32 (rf.immW 69 n)) ∧ w = w' := by
  go_enter Tryz.func99, Tryz.ntmps99
  go_wp2
  go_ret
  exact ⟨rfl, rfl⟩
theorem rtold_E (v : Int) (hv : 0 ≤ v ∧ v < 4294967296) (w : World) : Calls Tryz.prog 96 #[.string ⟨#[69]⟩, .int .u32 v] w fun e w' => e = .returned (.int .i64 (rf.toldV 69 v)) ∧ w = w' := by
  go_enter Tryz.func96, Tryz.ntmps96
  go_wp2
  go_ret
  exact ⟨rfl, rfl⟩
end Go.Proofs.YtjjkocklpcdbkaaGreat
