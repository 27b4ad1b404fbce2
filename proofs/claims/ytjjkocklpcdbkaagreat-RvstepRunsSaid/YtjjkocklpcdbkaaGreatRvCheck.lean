/- Check, for every shape with fields. -/
import Derived.Test.YtjjkocklpcdbkaaGreatGr2
import Derived.Deep.QuietTactic
import Derived.BigQuiet
import Derived.Outline
namespace Go.Proofs.YtjjkocklpcdbkaaGreat
open Go.RowKit
set_option linter.unusedVariables false
set_option maxRecDepth 100000
theorem kt.below_more' {w w' : World} (h : Below w.heap.size w w') (o : Obj) : Below w.heap.size w (w'.alloc o) := h.alloc h.size o
namespace rv
/-- a number of an instruction, behind the fields are struck -/
def zV (fs : List Fld) (k : Nat) (v : Int) : Int := if fs.any (·.k == k) then 0 else v
/-- may an instruction of a shape be -/
def chkS (s : Shape) (rd rs1 rs2 im : Int) : Bool :=
  decide (zV s.fs 1 rd = 0 ∧ zV s.fs 2 rs1 = 0 ∧ zV s.fs 3 rs2 = 0 ∧ zV s.fs 4 im = 0) && decide (0 ≤ rd ∧ rd ≤ 31 ∧ 0 ≤ rs1 ∧ rs1 ≤ 31 ∧ 0 ≤ rs2 ∧ rs2 ≤ 31) && (decide (s.step = 0) || decide (s.low ≤ im ∧ im ≤ s.high ∧ im.tmod s.step = 0))
def chkR (s : Shape) (rd rs1 rs2 im : Int) : Int := if chkS s rd rs1 rs2 im then 0 else 2
theorem zV_snoc (fs : List Fld) (j : Nat) (f : Fld) (h : fs[j]? = some f) (k : Nat) (v : Int) : zV (fs.take (j + 1)) k v = if f.k = k then 0 else zV (fs.take j) k v := by
  unfold zV
  rw [List.take_add_one, h, List.any_append]
  by_cases hk : f.k = k <;> simp [hk]
end rv
/-- one box that a call lays first is there behind a callee that keeps old memory -/
theorem one_box {w w1 : World} {o0 : Obj} (hb : Below (w.alloc o0).heap.size (w.alloc o0) w1) : w1.heap[w.heap.size]? = some o0 ∧ Below w.heap.size w w1 ∧ w.heap.size + 1 ≤ w1.heap.size := by
  have s1 : (w.alloc o0).heap.size = w.heap.size + 1 := World.size_alloc _ _
  have hs := hb.size
  refine ⟨?_, ((Below.refl _ _).alloc (Nat.le_refl _) o0).trans (hb.mono (by omega)), by omega⟩
  rw [hb.block _ (by omega), heap_alloc_new]
def restV (fs : List rv.Fld) (op rd rs1 rs2 im : Int) (j : Nat) : Array Value := #[.int .i64 op, .int .i64 (rv.zV (fs.take j) 1 rd), .int .i64 (rv.zV (fs.take j) 2 rs1), .int .i64 (rv.zV (fs.take j) 3 rs2), .int .i64 (rv.zV (fs.take j) 4 im)]
theorem restV_succ (fs : List rv.Fld) (op rd rs1 rs2 im : Int) (j : Nat) (f : rv.Fld) (h : fs[j]? = some f) (hk : f.k = 1 ∨ f.k = 2 ∨ f.k = 3 ∨ f.k = 4) : restV fs op rd rs1 rs2 im (j + 1) = (restV fs op rd rs1 rs2 im j).setIfInBounds f.k (.int .i64 0) := by
  unfold restV
  rw [rv.zV_snoc fs j f h, rv.zV_snoc fs j f h, rv.zV_snoc fs j f h, rv.zV_snoc fs j f h]
  rcases hk with hk | hk | hk | hk <;> simp [hk]
theorem restV_zero (fs : List rv.Fld) (op rd rs1 rs2 im : Int) : restV fs op rd rs1 rs2 im 0 = #[.int .i64 op, .int .i64 rd, .int .i64 rs1, .int .i64 rs2, .int .i64 im] := by
  simp [restV, rv.zV]
set_option maxRecDepth 100000 in
set_option maxHeartbeats 3200000 in
theorem check_gen (fs : List rv.Fld) (bb : Bool) (cc lo hi st : Int) (hg : rv.Good ⟨fs, bb, cc, lo, hi, st⟩) (hpos : 0 < fs.length) (nm fm : ByteArray) (a b c op rd rs1 rs2 im : Int) (w : World)
    (HA : Hid (∀ w, Calls Tryz.prog 109 #[.int .i64 op] w fun e w' => e = .returned (.tuple #[.agg #[.string nm, .string fm, .int .u32 a, .int .u32 b, .int .u32 c], .bool true]) ∧ Below w.heap.size w w'))
    (HSp : Hid (∀ w, Calls Tryz.prog 92 #[.string fm] w (ShapePost ⟨fs, bb, cc, lo, hi, st⟩ w))) :
    Calls Tryz.prog 94 #[.agg #[.int .i64 op, .int .i64 rd, .int .i64 rs1, .int .i64 rs2, .int .i64 im]] w fun e w' => e = .returned (.int .i64 (rv.chkR ⟨fs, bb, cc, lo, hi, st⟩ rd rs1 rs2 im)) ∧ Below w.heap.size w w' := by
  have HG := bl.hid hg
  obtain ⟨R, hR⟩ : ∃ R : Int, rv.chkR ⟨fs, bb, cc, lo, hi, st⟩ rd rs1 rs2 im = R := ⟨_, rfl⟩
  rw [hR]
  have HRes := bl.hid hR
  have n0 : fs.length ≤ 3 := hg.n
  clear hR hg
  go_enter Tryz.func94, Tryz.ntmps94
  go_wp2_with fail
  refine (HA.out _).mono ?_
  rintro e w1 ⟨rfl, hb⟩
  obtain ⟨r0, hb1, hs1⟩ := one_box hb
  have HX := bl.hid (RvAt.of_box r0)
  clear hb
  go_wp2_with fail
  refine (HSp.out _).mono ?_
  rintro e w2 ⟨ad, F, hF, rfl, hf, hb2⟩
  obtain rfl : ad = some ⟨F, 0, none⟩ := hF hpos
  dsimp only at hf
  have hs2 := hb2.size
  have sA : ∀ o : Obj, (w1.alloc o).heap.size = w1.heap.size + 1 := fun o => World.size_alloc _ _
  rw [sA] at hs2
  have r2 : w2.heap[w.heap.size]? = some (.cells #[.int .i64 op, .int .i64 rd, .int .i64 rs1, .int .i64 rs2, .int .i64 im] 71) := by
    rw [hb2.block _ (by rw [sA]; omega), heap_alloc_old _ _ (by omega)]
    exact r0
  have HX2 := bl.hid (RvAt.of_box r2)
  have hb3 : Below w.heap.size w w2 := (hb1.alloc hb1.size _).trans (hb2.mono (by rw [sA]; omega))
  have HF := bl.hid hf
  clear sA HX r0 hf hb1 hb2
  have HR := bl.hid r2
  have k0 : w.heap.size < w2.heap.size := by omega
  clear r2
  obtain ⟨c0, c1, c2, c3, c4⟩ := HX2.out
  go_wp2
  clear c0 c1 c2 c3 c4
  obtain ⟨wb, hwb⟩ : ∃ wb, wb = w2.alloc (.cells #[.slice (some ⟨F, 0, none⟩) fs.length fs.length, .bool bb, .int .i64 cc, .int .i64 lo, .int .i64 hi, .int .i64 st] 135) := ⟨_, rfl⟩
  have sb : wb.heap.size = w2.heap.size + 1 := by rw [hwb, World.size_alloc]
  have hSH : wb.heap[w2.heap.size]? = some (.cells #[.slice (some ⟨F, 0, none⟩) fs.length fs.length, .bool bb, .int .i64 cc, .int .i64 lo, .int .i64 hi, .int .i64 st] 135) := by rw [hwb, heap_alloc_new]
  have hBb : Below w.heap.size w wb := by rw [hwb]; exact hb3.alloc hb3.size _
  have hL : LoopAt wb w.heap.size F op rd rs1 rs2 im fs := by rw [hwb]; exact LoopAt.keep ⟨HX2.out, HF.out⟩ (kt.below_row _)
  rw [← hwb]
  have HSH := bl.hid hSH
  have HBb := bl.hid hBb
  have HL := bl.hid hL
  clear hwb hSH hBb hL HX2 HF HR hb3
  go_loopw [26] (fun k wr => ∃ j : Nat, j ≤ fs.length ∧ k = .int .i64 j ∧ wr.heap[w2.heap.size + 1]? = some (.cells (restV fs op rd rs1 rs2 im j) 71 (0, 0)) ∧ Below (w2.heap.size + 1) wb wr) (fun k _ => fs.length - (intOf k).toNat)
  case atStart => exact ⟨0, by omega, rfl, by rw [← sb, heap_alloc_new, restV_zero], by rw [← sb]; exact kt.below_row _⟩
  case round =>
    obtain ⟨j, hj, rfl, hrow, hbw⟩ := hrel
    have hl : LoopAt wr w.heap.size F op rd rs1 rs2 im fs := HL.out.keep (by rw [sb]; exact hbw)
    have HLW := bl.hid hl
    have HBW := bl.hid hbw
    have HRow := bl.hid hrow
    have l3 : w2.heap.size + 1 < wr.heap.size := by rw [Array.getElem?_eq_some_iff] at hrow; exact hrow.1
    clear hrow hbw hl
    by_cases hlt : j < fs.length
    · obtain ⟨f, hf⟩ : ∃ f, fs[j]? = some f := ⟨_, List.getElem?_eq_getElem hlt⟩
      have HFj := bl.hid hf
      obtain ⟨P0, f0, f1, p0⟩ := FldsAt.at _ _ _ _ HLW.out.f hf
      rw [Nat.zero_add] at f0 f1
      have hk := HG.out.k f (List.mem_of_getElem? hf)
      have HK := bl.hid hk
      have HSu := bl.hid (restV_succ fs op rd rs1 rs2 im j f hf hk)
      obtain ⟨d, hd⟩ : ∃ d, (restV fs op rd rs1 rs2 im j)[f.k]? = some d := by
        rcases hk with h | h | h | h <;> rw [h] <;> exact ⟨_, rfl⟩
      have d1 : wr.cell? ⟨w2.heap.size + 1, f.k, none⟩ = some d := (cell_of_row _ _ _ _ _ _ HRow.out).trans hd
      have e1 : wr.frozen? ⟨w2.heap.size + 1, f.k, none⟩ = false := frozen_of_row _ _ _ _ _ HRow.out
      clear hf p0 hk hd
      rcases HK.out with hk | hk | hk | hk
      all_goals
        rw [hk] at f0 d1 e1
        have HKK := bl.hid hk
        clear hk
        simp only [fnOf] at f0
        go_wp2
        refine ⟨⟨j + 1, by omega, by go_num, ?_, ?_⟩, by simp [intOf]; omega⟩
        · rw [heap_alloc_old _ _ (by simpa using l3), HSu.out, HKK.out]
          exact heap_setCell_same _ _ _ _ _ _ HRow.out
        · have hs := HBW.out.size
          exact (HBW.out.setCell (p := ⟨w2.heap.size + 1, _, none⟩) (Nat.le_refl _) _).alloc (by simp; omega) _
    · obtain rfl : j = fs.length := by omega
      obtain ⟨z1, hz1⟩ : ∃ z, rv.zV fs 1 rd = z := ⟨_, rfl⟩
      obtain ⟨z2, hz2⟩ : ∃ z, rv.zV fs 2 rs1 = z := ⟨_, rfl⟩
      obtain ⟨z3, hz3⟩ : ∃ z, rv.zV fs 3 rs2 = z := ⟨_, rfl⟩
      obtain ⟨z4, hz4⟩ : ∃ z, rv.zV fs 4 im = z := ⟨_, rfl⟩
      have hrow := HRow.out
      unfold restV at hrow
      rw [List.take_length, hz1, hz2, hz3, hz4] at hrow
      have HZ := bl.hid (And.intro hz1 (And.intro hz2 (And.intro hz3 hz4)))
      have d0 : wr.cell? ⟨w2.heap.size + 1, 0, none⟩ = some (.int .i64 op) := (cell_of_row _ _ _ _ _ _ hrow).trans rfl
      have d1 : wr.cell? ⟨w2.heap.size + 1, 1, none⟩ = some (.int .i64 z1) := (cell_of_row _ _ _ _ _ _ hrow).trans rfl
      have d2 : wr.cell? ⟨w2.heap.size + 1, 2, none⟩ = some (.int .i64 z2) := (cell_of_row _ _ _ _ _ _ hrow).trans rfl
      have d3 : wr.cell? ⟨w2.heap.size + 1, 3, none⟩ = some (.int .i64 z3) := (cell_of_row _ _ _ _ _ _ hrow).trans rfl
      have d4 : wr.cell? ⟨w2.heap.size + 1, 4, none⟩ = some (.int .i64 z4) := (cell_of_row _ _ _ _ _ _ hrow).trans rfl
      obtain ⟨⟨c0, c1, c2, c3, c4⟩, -⟩ := HLW.out
      have hsh : wr.heap[w2.heap.size]? = wb.heap[w2.heap.size]? := HBW.out.block _ (by omega)
      rw [HSH.out] at hsh
      have s3 : wr.cell? ⟨w2.heap.size, 3, none⟩ = some (.int .i64 lo) := (cell_of_row _ _ _ _ _ _ hsh).trans rfl
      have s4 : wr.cell? ⟨w2.heap.size, 4, none⟩ = some (.int .i64 hi) := (cell_of_row _ _ _ _ _ _ hsh).trans rfl
      have s5 : wr.cell? ⟨w2.heap.size, 5, none⟩ = some (.int .i64 st) := (cell_of_row _ _ _ _ _ _ hsh).trans rfl
      have lx : w.heap.size < wr.heap.size := block_lt_of_cell c0
      have hBE : Below w.heap.size w wr := HBb.out.trans (HBW.out.mono (by omega))
      have HBE := bl.hid hBE
      clear hsh hrow hz1 hz2 hz3 hz4 hBE
      by_cases hz : z1 = 0 ∧ z2 = 0 ∧ z3 = 0 ∧ z4 = 0
      · by_cases hr : 0 ≤ rd ∧ rd ≤ 31 ∧ 0 ≤ rs1 ∧ rs1 ≤ 31 ∧ 0 ≤ rs2 ∧ rs2 ≤ 31
        · have HR3 : Hid (R = if st = 0 ∨ (lo ≤ im ∧ im ≤ hi ∧ im.tmod st = 0) then 0 else 2) := bl.hid (by
            rw [← HRes.out]
            unfold rv.chkR rv.chkS
            obtain ⟨e1, e2, e3, e4⟩ := HZ.out
            obtain ⟨f1, f2, f3, f4⟩ := hz
            dsimp only
            rw [e1, e2, e3, e4, decide_eq_true (And.intro f1 (And.intro f2 (And.intro f3 f4))), decide_eq_true hr]
            by_cases q1 : st = 0 <;> by_cases q2 : lo ≤ im ∧ im ≤ hi ∧ im.tmod st = 0 <;> simp [q1, q2])
          obtain ⟨rfl, rfl, rfl, rfl⟩ := hz
          obtain ⟨g1, g2, g3, g4, g5, g6⟩ := hr
          have l2 : w2.heap.size < wr.heap.size := by omega
          have HW : Hid (∀ o : Obj, Below w.heap.size w (wr.alloc o)) := bl.hid fun o => kt.below_more' HBE.out o
          have hst : st = 0 ∨ 1 ≤ st := by rcases HG.out.st with h | h | h <;> dsimp only at h <;> omega
          rcases hst with rfl | hst
          · have HR4 : Hid (R = 0) := bl.hid (by rw [HR3.out]; simp)
            go_wp2
            refine wp_loop_rounds 4 ?_
            rw [rounds_succ]
            go_wp2
            rw [rounds_succ]
            go_wp2
            rw [rounds_succ]
            go_wp2
            rw [rounds_succ]
            go_wp2
            go_ret
            exact ⟨by rw [HR4.out]; rfl, HW.out _⟩
          · have hst0 : ¬ st = 0 := by omega
            by_cases hq : lo ≤ im ∧ im ≤ hi
            · obtain ⟨hq1, hq2⟩ := hq
              by_cases hm : im.tmod st = 0
              · have HR4 : Hid (R = 0) := bl.hid (by rw [HR3.out, if_pos (Or.inr ⟨hq1, hq2, hm⟩)])
                have hm2 : (im.tmod st != 0) = false := by simpa using hm
                clear hm
                go_wp2
                refine wp_loop_rounds 4 ?_
                rw [rounds_succ]
                go_wp2
                rw [rounds_succ]
                go_wp2
                rw [rounds_succ]
                go_wp2
                rw [rounds_succ]
                go_wp2
                all_goals
                  go_ret
                  exact ⟨by rw [HR4.out]; rfl, HW.out _⟩
              · have HR4 : Hid (R = 2) := bl.hid (by rw [HR3.out, if_neg (by rintro (h | ⟨-, -, h⟩); exact hst0 h; exact hm h)])
                have hm2 : (im.tmod st != 0) = true := by simpa using hm
                clear hm
                go_wp2
                refine wp_loop_rounds 4 ?_
                rw [rounds_succ]
                go_wp2
                rw [rounds_succ]
                go_wp2
                rw [rounds_succ]
                go_wp2
                rw [rounds_succ]
                go_wp2
                go_ret
                exact ⟨by rw [HR4.out]; rfl, HW.out _⟩
            · have HR4 : Hid (R = 2) := bl.hid (by rw [HR3.out, if_neg (by rintro (h | ⟨h, h2, -⟩); exact hst0 h; exact hq ⟨h, h2⟩)])
              have hq' : im < lo ∨ (lo ≤ im ∧ hi < im) := by omega
              clear hq
              rcases hq' with hq | ⟨hq1, hq⟩
              all_goals
                go_wp2
                refine wp_loop_rounds 4 ?_
                rw [rounds_succ]
                go_wp2
                rw [rounds_succ]
                go_wp2
                rw [rounds_succ]
                go_wp2
                rw [rounds_succ]
                go_wp2
                go_ret
                exact ⟨by rw [HR4.out]; rfl, HW.out _⟩
        · have HR3 : Hid (R = 2) := bl.hid (by
            rw [← HRes.out]
            unfold rv.chkR rv.chkS
            rw [decide_eq_false hr]
            simp)
          obtain ⟨rfl, rfl, rfl, rfl⟩ := hz
          have HW : Hid (∀ o : Obj, Below w.heap.size w (wr.alloc o)) := bl.hid fun o => kt.below_more' HBE.out o
          by_cases g1 : 0 ≤ rd
          · by_cases g2 : rd ≤ 31
            · by_cases g3 : 0 ≤ rs1
              · by_cases g4 : rs1 ≤ 31
                · by_cases g5 : 0 ≤ rs2
                  · have g6 : ¬ rs2 ≤ 31 := fun h => hr ⟨g1, g2, g3, g4, g5, h⟩
                    clear hr
                    go_wp2
                    refine wp_loop_rounds 4 ?_
                    rw [rounds_succ]
                    go_wp2
                    rw [rounds_succ]
                    go_wp2
                    rw [rounds_succ]
                    go_wp2
                    go_ret
                    exact ⟨by rw [HR3.out]; rfl, HW.out _⟩
                  · clear hr
                    go_wp2
                    refine wp_loop_rounds 4 ?_
                    rw [rounds_succ]
                    go_wp2
                    rw [rounds_succ]
                    go_wp2
                    rw [rounds_succ]
                    go_wp2
                    go_ret
                    exact ⟨by rw [HR3.out]; rfl, HW.out _⟩
                · clear hr
                  go_wp2
                  refine wp_loop_rounds 4 ?_
                  rw [rounds_succ]
                  go_wp2
                  rw [rounds_succ]
                  go_wp2
                  go_ret
                  exact ⟨by rw [HR3.out]; rfl, HW.out _⟩
              · clear hr
                go_wp2
                refine wp_loop_rounds 4 ?_
                rw [rounds_succ]
                go_wp2
                rw [rounds_succ]
                go_wp2
                go_ret
                exact ⟨by rw [HR3.out]; rfl, HW.out _⟩
            · clear hr
              go_wp2
              refine wp_loop_rounds 4 ?_
              rw [rounds_succ]
              go_wp2
              go_ret
              exact ⟨by rw [HR3.out]; rfl, HW.out _⟩
          · clear hr
            go_wp2
            refine wp_loop_rounds 4 ?_
            rw [rounds_succ]
            go_wp2
            go_ret
            exact ⟨by rw [HR3.out]; rfl, HW.out _⟩
      · have hR2 : R = 2 := by
          rw [← HRes.out]
          unfold rv.chkR rv.chkS
          obtain ⟨e1, e2, e3, e4⟩ := HZ.out
          dsimp only
          rw [e1, e2, e3, e4, decide_eq_false hz]
          rfl
        have HR2 := bl.hid hR2
        clear hR2
        go_wp2
        all_goals
          go_ret
          exact ⟨by rw [HR2.out]; rfl, HBE.out⟩
end Go.Proofs.YtjjkocklpcdbkaaGreat
