/- read, for every shape with fields. -/
import Derived.Test.YtjjkocklpcdbkaaGreatGr2
import Derived.BigQuiet
import Derived.LaidEqlPtr
import Derived.Outline
namespace Go.Proofs.YtjjkocklpcdbkaaGreat
open Go.RowKit
set_option linter.unusedVariables false
set_option maxRecDepth 100000
theorem rv_info : (Tryz.prog.info? 71).map (·.size) = some 5 := by kernel_rfl
theorem rv_one (a b c d e : Int) : (#[.int .i64 a, .int .i64 b, .int .i64 c, .int .i64 d, .int .i64 e] : Array Value).all (·.oneCell') = true := by simp [Value.oneCell']
theorem int_info : ∃ j, Tryz.prog.info? 3 = some j ∧ j.size ≠ 0 := by
  have h : (Tryz.prog.info? 3).map (·.size) = some 1 := by kernel_rfl
  cases hj : Tryz.prog.info? 3 with
  | none => rw [hj] at h; cases h
  | some j => rw [hj] at h; exact ⟨j, rfl, by simp at h; omega⟩
theorem ptr_other (w : World) (X i : Nat) (cs : Array Value) (t : TypeId) (h : w.heap[X]? = some (.cells cs t (0, 0))) (hi : i ≠ 4) :
    (Go.binOp .eql 161 (.pointer (some ⟨X, i, none⟩)) (.pointer (some ⟨X, 4, none⟩))).run Tryz.prog w = .ok (.bool false) w := by
  obtain ⟨j, h1, h2⟩ := int_info
  exact run_eql_ptr_other w (te := 3) (j := j) Tryz.underlying161 h1 h2 (by intro e; injection e with e1 e2 e3; exact hi e2) h h
theorem ptr_same (w : World) (a : Addr) : (Go.binOp .eql 161 (.pointer (some a)) (.pointer (some a))).run Tryz.prog w = .ok (.bool true) w := by
  obtain ⟨j, h1, h2⟩ := int_info
  exact run_eql_ptr_same w a Tryz.underlying161 h1
set_option maxRecDepth 100000 in
set_option maxHeartbeats 3200000 in
theorem read_gen (fs : List rv.Fld) (bb : Bool) (cc lo hi st : Int) (hg : rv.Good ⟨fs, bb, cc, lo, hi, st⟩) (hpos : 0 < fs.length) (nm fm : ByteArray) (a b c op v : Int) (h0 : 0 ≤ v) (h1 : v < 4294967296) (w : World)
    (HSp : Hid (∀ w, Calls Tryz.prog 92 #[.string fm] w (ShapePost ⟨fs, bb, cc, lo, hi, st⟩ w))) :
    Calls Tryz.prog 93 #[.int .i64 op, .agg #[.string nm, .string fm, .int .u32 a, .int .u32 b, .int .u32 c], .int .u32 v] w fun e w' => e = .returned (.agg (readRow op (rv.nums v lo fs))) ∧ Below w.heap.size w w' := by
  have HG := bl.hid hg
  have n0 : fs.length ≤ 3 := hg.n
  clear hg
  go_enter Tryz.func93, Tryz.ntmps93
  go_wp2_with fail
  refine (HSp.out _).mono ?_
  rintro e w2 ⟨ad, F, hF, rfl, hf, hb2⟩
  obtain rfl : ad = some ⟨F, 0, none⟩ := hF hpos
  dsimp only at hf
  obtain ⟨r0, r1, r2, hb3, hs2⟩ := three_boxes hb2
  have HFX := bl.hid (FldsX.of (X := w.heap.size + 1 + 1) hf HG.out ((cell_of_row _ _ _ _ _ _ r2).trans rfl) ((cell_of_row _ _ _ _ _ _ r2).trans rfl))
  have HR1 := bl.hid r1
  have HR2 := bl.hid r2
  have HB3 := bl.hid hb3
  clear r0 r1 r2 hb3 hb2 hf
  have k0 : w.heap.size < w2.heap.size := by omega
  have k1 : w.heap.size + 1 < w2.heap.size := by omega
  have k2 : w.heap.size + 1 + 1 < w2.heap.size := by omega
  go_wp2
  obtain ⟨wb, hwb⟩ : ∃ wb, wb = w2.alloc (.cells #[.slice (some ⟨F, 0, none⟩) fs.length fs.length, .bool bb, .int .i64 cc, .int .i64 lo, .int .i64 hi, .int .i64 st] 135) := ⟨_, rfl⟩
  have sb : wb.heap.size = w2.heap.size + 1 := by rw [hwb, World.size_alloc]
  have hSH : wb.heap[w2.heap.size]? = some (.cells #[.slice (some ⟨F, 0, none⟩) fs.length fs.length, .bool bb, .int .i64 cc, .int .i64 lo, .int .i64 hi, .int .i64 st] 135) := by rw [hwb, heap_alloc_new]
  have hr1 : wb.heap[w.heap.size + 1]? = some (.cells #[.int .i64 0, .int .i64 0, .int .i64 0, .int .i64 0, .int .i64 0] 71) := by rw [hwb, heap_alloc_old _ _ k1]; exact HR1.out
  have hr2 : wb.heap[w.heap.size + 1 + 1]? = some (.cells #[.int .i64 op, .int .i64 0, .int .i64 0, .int .i64 0, .int .i64 0] 71) := by rw [hwb, heap_alloc_old _ _ k2]; exact HR2.out
  have hBb : Below w.heap.size w wb := by rw [hwb]; exact HB3.out.alloc HB3.out.size _
  have hL : FldsX wb (w.heap.size + 1 + 1) F fs := by rw [hwb]; exact HFX.out.keep ((kt.But.refl _ _).alloc _)
  rw [← hwb]
  have HSH := bl.hid hSH
  have HR1b := bl.hid hr1
  have HR2b := bl.hid hr2
  have HBb := bl.hid hBb
  have HL := bl.hid hL
  clear hwb hSH hBb hL HFX HR1 HR2 HB3 hr1 hr2
  go_loopw [24] (fun k wr => ∃ j : Nat, j ≤ fs.length ∧ k = .int .i64 j ∧ wr.heap[w.heap.size + 1 + 1]? = some (.cells (readRow op (rv.nums v lo (fs.take j))) 71 (0, 0)) ∧ kt.But (w.heap.size + 1 + 1) wb wr) (fun k _ => fs.length - (intOf k).toNat)
  case atStart => exact ⟨0, by omega, rfl, HR2b.out, kt.But.refl _ _⟩
  case round =>
    obtain ⟨j, hj, rfl, hrow, hbw⟩ := hrel
    obtain ⟨wo, rfl⟩ : ∃ wo : World, wo = wr := ⟨_, rfl⟩
    have HLW := bl.hid (HL.out.keep hbw)
    have HBW := bl.hid hbw
    have HRow := bl.hid hrow
    have hsw : wb.heap.size ≤ wo.heap.size := hbw.size
    clear hrow hbw
    by_cases hlt : j < fs.length
    · obtain ⟨f, hf⟩ : ∃ f, fs[j]? = some f := ⟨_, List.getElem?_eq_getElem hlt⟩
      obtain ⟨hF, P, hP, f0, f1, hp⟩ := HLW.out j f hf
      have HP := bl.hid hp
      have HFj := bl.hid hf
      have HK := bl.hid (HG.out.k f (List.mem_of_getElem? hf))
      have HPs := bl.hid (HG.out.p f (List.mem_of_getElem? hf))
      have HSu := bl.hid (readRow_succ op v lo fs j f hf (HG.out.k f (List.mem_of_getElem? hf)))
      have n4 : f.ps.length ≤ 4 := HPs.out.1
      have n5 : 0 < f.ps.length := HPs.out.2.1
      clear hf hp
      go_wp2
      obtain ⟨wf, hwf⟩ : ∃ wf, wf = wo.alloc (.cells #[.func (.func (fnOf f.k)) #[] #[], .slice (some ⟨P, 0, none⟩) f.ps.length f.ps.length] 159) := ⟨_, rfl⟩
      have hwfb : wf.heap[wo.heap.size]? = some (.cells #[.func (.func (fnOf f.k)) #[] #[], .slice (some ⟨P, 0, none⟩) f.ps.length f.ps.length] 159) := by rw [hwf, heap_alloc_new]
      have swf : wf.heap.size = wo.heap.size + 1 := by rw [hwf, World.size_alloc]
      have hbo : kt.But (w.heap.size + 1 + 1) wo wf := by rw [hwf]; exact (kt.But.refl _ _).alloc _
      have hro : wf.heap[w.heap.size + 1 + 1]? = wo.heap[w.heap.size + 1 + 1]? := by rw [hwf, heap_alloc_old _ _ (by omega)]
      rw [← hwf]
      have HWFB := bl.hid hwfb
      have HBO := bl.hid hbo
      have HRO := bl.hid hro
      clear hwf hwfb hbo hro
      go_loopw [11, 12, 31] (fun n t k wi => ∃ m : Nat, m ≤ f.ps.length ∧ k = .int .i64 m ∧ n = .int .i64 (rv.acc v (f.ps.take m)) ∧ t = .int .i64 (rv.top (f.ps.take m)) ∧ wi.heap[w.heap.size + 1 + 1]? = wo.heap[w.heap.size + 1 + 1]? ∧ kt.But (w.heap.size + 1 + 1) wf wi) (fun _ _ k _ => f.ps.length - (intOf k).toNat)
      case atStart => exact ⟨0, by omega, rfl, rfl, rfl, HRO.out, kt.But.refl _ _⟩
      case round =>
        obtain ⟨m, hm, rfl, rfl, rfl, hri, hwi⟩ := hrel
        obtain ⟨wi, rfl⟩ : ∃ wi : World, wi = wr := ⟨_, rfl⟩
        have HRI := bl.hid hri
        have HWI := bl.hid hwi
        have hsi : wf.heap.size ≤ wi.heap.size := hwi.size
        clear hri hwi
        by_cases hlm : m < f.ps.length
        · obtain ⟨p, hpm⟩ : ∃ p, f.ps[m]? = some p := ⟨_, List.getElem?_eq_getElem hlm⟩
          obtain ⟨c0, c1, c2⟩ := HP.out m p hpm
          have HPB := HPs.out.2.2 p (List.mem_of_getElem? hpm)
          have HAs := bl.hid (rv.acc_snoc v f.ps m p hpm)
          have HTs := bl.hid (rv.top_snoc f.ps m p hpm)
          have ht := rv.top_bd (f.ps.take m) (fun q hq => HPs.out.2.2 q (List.mem_of_mem_take hq)) 0 (by omega) (by omega)
          have ht1 : 0 ≤ rv.top (f.ps.take m) := ht.1
          have ht2 : rv.top (f.ps.take m) ≤ 21 := ht.2
          obtain ⟨⟨b0, b1⟩, ⟨b2, b3⟩, ⟨b4, b5⟩, b6⟩ := HPB
          obtain ⟨p0, p1, p2⟩ := p
          dsimp only at b0 b1 b2 b3 b4 b5 b6 c0 c1 c2
          have e0 := HWI.out.cell (HBO.out.cell c0 hP) hP
          have e1 := HWI.out.cell (HBO.out.cell c1 hP) hP
          have e2 := HWI.out.cell (HBO.out.cell c2 hP) hP
          have lP : P < wi.heap.size := block_lt_of_cell e0
          clear hpm c0 c1 c2 ht
          obtain ⟨x, hx⟩ : ∃ x, rv.acc v (f.ps.take m) = x := ⟨_, rfl⟩
          obtain ⟨y, hy⟩ : ∃ y, rv.top (f.ps.take m) = y := ⟨_, rfl⟩
          rw [hy] at ht1 ht2
          rw [hx, hy]
          have HX1 : Hid (rv.acc v (List.take m f.ps) = x) := bl.hid hx
          have HY1 : Hid (rv.top (List.take m f.ps) = y) := bl.hid hy
          clear hx hy
          go_wp2
          go_quiet (fail)
          go_wp2
          refine ⟨⟨m + 1, by omega, by go_num, by rw [HAs.out, HX1.out]; rfl, ?_, ?_, (HWI.out.alloc _).drewN nq⟩, by simp [intOf]; omega⟩
          · rw [HTs.out, HY1.out]
            refine bl.int_eq ?_
            by_cases hq : y < p0 + p1
            · rw [if_pos hq]; omega
            · rw [if_neg hq]; omega
          · show (wi.alloc _).heap[w.heap.size + 1 + 1]? = _
            rw [heap_alloc_old _ _ (by omega), HRI.out]
        · obtain rfl : m = f.ps.length := by omega
          have hsh : wi.heap[w2.heap.size]? = wb.heap[w2.heap.size]? := by rw [HWI.out.block _ (by omega) (by omega), HBO.out.block _ (by omega) (by omega), HBW.out.block _ (by omega) (by omega)]
          rw [HSH.out] at hsh
          have s3 : wi.cell? ⟨w2.heap.size, 3, none⟩ = some (.int .i64 lo) := (cell_of_row _ _ _ _ _ _ hsh).trans rfl
          have hfb : wi.heap[wo.heap.size]? = wf.heap[wo.heap.size]? := HWI.out.block _ (by omega) (by omega)
          rw [HWFB.out] at hfb
          have f0 : wi.cell? ⟨wo.heap.size, 0, none⟩ = some (.func (.func (fnOf f.k)) #[] #[]) := (cell_of_row _ _ _ _ _ _ hfb).trans rfl
          have hrx : wi.heap[w.heap.size + 1 + 1]? = some (.cells (readRow op (rv.nums v lo (fs.take j))) 71 (0, 0)) := HRI.out.trans HRow.out
          have HRX := bl.hid hrx
          have l1 : w2.heap.size < wi.heap.size := by omega
          have l2 : wo.heap.size < wi.heap.size := by omega
          have l3 : w.heap.size + 1 + 1 < wi.heap.size := by omega
          have HPs2 := HPs
          obtain ⟨p, r, hpr⟩ : ∃ p r, f.ps = p :: r := by
            cases hps : f.ps with
            | nil => rw [hps] at n5; simp at n5
            | cons p r => exact ⟨p, r, rfl⟩
          have htp := rv.top_pos p r (by rw [← hpr]; exact HPs.out.2.2)
          rw [← hpr] at htp
          have hac := rv.acc_bd v h0 h1 f.ps HPs.out.2.2 0 (by omega) (by omega)
          rw [List.take_length]
          obtain ⟨x, hx⟩ : ∃ x, rv.acc v f.ps = x := ⟨_, rfl⟩
          obtain ⟨y, hy⟩ : ∃ y, rv.top f.ps = y := ⟨_, rfl⟩
          have hx0 : 0 ≤ x ∧ x < 2097152 := by rw [← hx]; exact hac
          have hy0 : 1 ≤ y ∧ y ≤ 21 := by rw [← hy]; exact htp
          rw [hx, hy]
          have HXY := bl.hid (And.intro hx hy)
          obtain ⟨x0, x1⟩ := hx0
          obtain ⟨y0, y1⟩ := hy0
          have e1 : ∀ k, k < 5 → wi.frozen? ⟨w.heap.size + 1 + 1, k, none⟩ = false := fun k _ => frozen_of_row _ _ _ _ _ HRX.out
          have E1 := bl.hid e1
          obtain ⟨d, hd⟩ : ∃ d, (readRow op (rv.nums v lo (fs.take j)))[f.k]? = some d := by
            rcases HK.out with h | h | h | h <;> rw [h] <;> exact ⟨_, rfl⟩
          have d1 : wi.cell? ⟨w.heap.size + 1 + 1, f.k, none⟩ = some d := (cell_of_row _ _ _ _ _ _ HRX.out).trans hd
          have g1 : wi.frozen? ⟨w.heap.size + 1 + 1, f.k, none⟩ = false := frozen_of_row _ _ _ _ _ HRX.out
          clear hx hy hac htp hpr hsh hfb hrx hd e1
          have HRS : Hid (∀ u : Value, (wi.setCell ⟨w.heap.size + 1 + 1, f.k, none⟩ u).heap[w.heap.size + 1 + 1]? = some (.cells ((readRow op (rv.nums v lo (fs.take j))).setIfInBounds f.k u) 71 (0, 0))) := bl.hid fun u => heap_setCell_same _ _ _ _ _ _ HRX.out
          have HBN : Hid (∀ u : Value, kt.But (w.heap.size + 1 + 1) wb (wi.setCell ⟨w.heap.size + 1 + 1, f.k, none⟩ u)) := bl.hid fun u => ((HBW.out.trans HBO.out).trans HWI.out).setCell _ u
          by_cases hk4 : f.k = 4
          · rw [hk4] at f0 d1 g1
            have HKK := bl.hid hk4
            clear hk4
            simp only [fnOf] at f0
            have q := ptr_same (wi.setCell ⟨w.heap.size + 1 + 1, 4, none⟩ (.int .i64 x)) ⟨w.heap.size + 1 + 1, 4, none⟩
            by_cases hlo : lo < 0
            · by_cases hs : x / 2 ^ (y - 1).toNat = 1
              · have HFin : Hid (rv.fin v lo f = wrap64 (x - wrap64 (2 ^ y.toNat))) := bl.hid (by
                  unfold rv.fin
                  rw [HXY.out.1, HXY.out.2, if_pos ⟨HKK.out, hlo, hs⟩])
                have hsB : (x / 2 ^ (y.toNat - 1) == 1) = true := by rw [show y.toNat - 1 = (y - 1).toNat by omega]; simpa using hs
                clear hs
                go_wp2
                refine ⟨⟨j + 1, by omega, by go_num, ?_, ?_⟩, by simp [intOf]; omega⟩
                · rw [HSu.out, HFin.out, HKK.out]
                  have h2 := heap_setCell_same _ _ 4 _ _ (.int .i64 (wrap64 (x - wrap64 (2 ^ y.toNat)))) (heap_setCell_same _ _ 4 _ _ (.int .i64 x) HRX.out)
                  rw [Array.setIfInBounds_setIfInBounds] at h2
                  exact h2
                · exact (((HBW.out.trans HBO.out).trans HWI.out).setCell _ _).setCell _ _
              · have HFin : Hid (rv.fin v lo f = x) := bl.hid (by
                  unfold rv.fin
                  rw [HXY.out.1, HXY.out.2, if_neg (fun h => hs h.2.2)])
                have hsB : (x / 2 ^ (y.toNat - 1) == 1) = false := by rw [show y.toNat - 1 = (y - 1).toNat by omega]; simpa using hs
                clear hs
                go_wp2
                refine ⟨⟨j + 1, by omega, by go_num, ?_, ?_⟩, by simp [intOf]; omega⟩
                · rw [HSu.out, HFin.out, HKK.out]
                  exact heap_setCell_same _ _ _ _ _ _ HRX.out
                · exact ((HBW.out.trans HBO.out).trans HWI.out).setCell _ _
            · have HFin : Hid (rv.fin v lo f = x) := bl.hid (by
                unfold rv.fin
                rw [HXY.out.1, HXY.out.2, if_neg (fun h => hlo h.2.1)])
              go_wp2
              refine ⟨⟨j + 1, by omega, by go_num, ?_, ?_⟩, by simp [intOf]; omega⟩
              · rw [HSu.out, HFin.out, HKK.out]
                exact heap_setCell_same _ _ _ _ _ _ HRX.out
              · exact ((HBW.out.trans HBO.out).trans HWI.out).setCell _ _
          · have HFin : Hid (rv.fin v lo f = x) := bl.hid (by
              unfold rv.fin
              rw [if_neg (fun h => hk4 h.1)]
              exact HXY.out.1)
            have hk3 : f.k = 1 ∨ f.k = 2 ∨ f.k = 3 := by rcases HK.out with h | h | h | h <;> omega
            clear hk4
            rcases hk3 with hk | hk | hk
            all_goals
              rw [hk] at f0 d1 g1
              have q := ptr_other (wi.setCell ⟨w.heap.size + 1 + 1, f.k, none⟩ (.int .i64 x)) _ f.k _ _ (HRS.out _) (by rw [hk]; decide)
              rw [hk] at q
              have HKK := bl.hid hk
              clear hk
              simp only [fnOf] at f0
              go_wp2
              refine ⟨⟨j + 1, by omega, by go_num, ?_, ?_⟩, by simp [intOf]; omega⟩
              · rw [HSu.out, HFin.out, HKK.out]
                exact heap_setCell_same _ _ _ _ _ _ HRX.out
              · exact ((HBW.out.trans HBO.out).trans HWI.out).setCell _ _
    · obtain rfl : j = fs.length := by omega
      have hrow := HRow.out
      rw [List.take_length] at hrow
      obtain ⟨z1, hz1⟩ : ∃ z, rv.nums v lo fs 1 = z := ⟨_, rfl⟩
      obtain ⟨z2, hz2⟩ : ∃ z, rv.nums v lo fs 2 = z := ⟨_, rfl⟩
      obtain ⟨z3, hz3⟩ : ∃ z, rv.nums v lo fs 3 = z := ⟨_, rfl⟩
      obtain ⟨z4, hz4⟩ : ∃ z, rv.nums v lo fs 4 = z := ⟨_, rfl⟩
      unfold readRow at hrow
      rw [hz1, hz2, hz3, hz4] at hrow
      have HZ := bl.hid (And.intro hz1 (And.intro hz2 (And.intro hz3 hz4)))
      have d0 : wo.cell? ⟨w.heap.size + 1 + 1, 0, none⟩ = some (.int .i64 op) := (cell_of_row _ _ _ _ _ _ hrow).trans rfl
      have d1 : wo.cell? ⟨w.heap.size + 1 + 1, 1, none⟩ = some (.int .i64 z1) := (cell_of_row _ _ _ _ _ _ hrow).trans rfl
      have d2 : wo.cell? ⟨w.heap.size + 1 + 1, 2, none⟩ = some (.int .i64 z2) := (cell_of_row _ _ _ _ _ _ hrow).trans rfl
      have d3 : wo.cell? ⟨w.heap.size + 1 + 1, 3, none⟩ = some (.int .i64 z3) := (cell_of_row _ _ _ _ _ _ hrow).trans rfl
      have d4 : wo.cell? ⟨w.heap.size + 1 + 1, 4, none⟩ = some (.int .i64 z4) := (cell_of_row _ _ _ _ _ _ hrow).trans rfl
      have hr1 : wo.heap[w.heap.size + 1]? = some (.cells #[.int .i64 0, .int .i64 0, .int .i64 0, .int .i64 0, .int .i64 0] 71 (0, 0)) := by rw [HBW.out.block _ (by omega) (by omega)]; exact HR1b.out
      have HR1 := bl.hid hr1
      have HBE : Hid (Below w.heap.size w wo) := bl.hid (HBW.out.below (by omega) (by omega) HBb.out)
      clear hz1 hz2 hz3 hz4 hrow hr1
      go_wp2_with (refine wpList_store_row rfl 71 _ _ rfl (w.heap.size + 1) #[.int .i64 op, .int .i64 z1, .int .i64 z2, .int .i64 z3, .int .i64 z4] rfl rfl 71 _ HR1.out rv_info rfl (rv_one _ _ _ _ _) ?_)
      refine bodyPost_ret (results_cell_row rfl _ _ (w.heap.size + 1) 71 _ (0, 0) _ rfl (setRow_heap _ _ _ _ _ _ HR1.out) Tryz.underlying71 rfl rv_info) rfl ?_
      exact ⟨by unfold readRow; rw [HZ.out.1, HZ.out.2.1, HZ.out.2.2.1, HZ.out.2.2.2], HBE.out.trans ⟨rfl, rfl, rfl, by simp, fun k hk => setRow_other _ _ _ _ (by omega)⟩⟩
end Go.Proofs.YtjjkocklpcdbkaaGreat
