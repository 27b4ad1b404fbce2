/- The reference's fetch, walked. -/
import Derived.Test.YtjjkocklpcdbkaaGreatRsFns
namespace Go.Proofs.YtjjkocklpcdbkaaGreat
open Go.RowKit
set_option linter.unusedVariables false
set_option maxRecDepth 100000
namespace st
def inZero : In := ⟨0, 0, 0, 0, 0⟩
/-- what is fetched, and how a step ends -/
def fetchS (f : Nat → Int) (n : Nat) (s : S) : In × Int :=
  if s.pc % 4 ≠ 0 then (inZero, 3)
  else if s.pc < 4294967296 ∨ (n : Int) ≤ (s.pc - 4294967296) / 4 then (inZero, 4)
  else if (toldOf (f ((s.pc - 4294967296) / 4).toNat)).e ≠ 0 then (inZero, 2)
  else ((toldOf (f ((s.pc - 4294967296) / 4).toNat)).i, 0)
theorem step_fetch (f : Nat → Int) (n : Nat) (s : S) : step (fun k => toldOf (f k)) n s = if (fetchS f n s).2 ≠ 0 then ((fetchS f n s).2, s) else exec (fetchS f n s).1 s := by
  unfold step fetchS
  by_cases h1 : s.pc % 4 ≠ 0
  · rw [if_pos h1, if_pos h1]; rfl
  rw [if_neg h1, if_neg h1]
  by_cases h2 : s.pc < 4294967296 ∨ (n : Int) ≤ (s.pc - 4294967296) / 4
  · rw [if_pos h2, if_pos h2]; rfl
  rw [if_neg h2, if_neg h2]
  by_cases h3 : (toldOf (f ((s.pc - 4294967296) / 4).toNat)).e ≠ 0
  · rw [if_pos h3, if_pos h3]; rfl
  rw [if_neg h3, if_neg h3]
  rfl
theorem fetch_ok (f : Nat → Int) (n : Nat) (s : S) (h : (fetchS f n s).2 = 0) : InOk (fetchS f n s).1 := by
  unfold fetchS at h ⊢
  split at h
  · cases h
  split at h
  · cases h
  split at h
  · cases h
  rename_i h1 h2 h3
  rw [if_neg h1, if_neg h2, if_neg h3]
  exact (toldOf_ok _).ins (by simpa using h3)
end st
/-- a row of five, set cell by cell -/
theorem set5 (w : World) (b : Nat) (a0 a1 a2 a3 a4 x0 x1 x2 x3 x4 : Value) (t : TypeId) (h : w.heap[b]? = some (.cells #[a0, a1, a2, a3, a4] t (0, 0))) :
    (((((w.setCell ⟨b, 0, none⟩ x0).setCell ⟨b, 1, none⟩ x1).setCell ⟨b, 2, none⟩ x2).setCell ⟨b, 3, none⟩ x3).setCell ⟨b, 4, none⟩ x4).heap[b]? = some (.cells #[x0, x1, x2, x3, x4] t (0, 0)) ∧
    kt.Only b w (((((w.setCell ⟨b, 0, none⟩ x0).setCell ⟨b, 1, none⟩ x1).setCell ⟨b, 2, none⟩ x2).setCell ⟨b, 3, none⟩ x3).setCell ⟨b, 4, none⟩ x4) :=
  ⟨heap_setCell_same _ _ _ _ _ _ (heap_setCell_same _ _ _ _ _ _ (heap_setCell_same _ _ _ _ _ _ (heap_setCell_same _ _ _ _ _ _ (heap_setCell_same _ _ _ _ _ _ h)))),
   ((((kt.Only.setCell _ _ _ _).trans (kt.Only.setCell _ _ _ _)).trans (kt.Only.setCell _ _ _ _)).trans (kt.Only.setCell _ _ _ _)).trans (kt.Only.setCell _ _ _ _)⟩
/-- what fetch answers -/
def FetchPost (i : st.In) (en : Int) (w : World) (e : Ending) (w' : World) : Prop := e = .returned (.tuple #[.agg i.cells, .int .i64 en]) ∧ Below w.heap.size w w'
set_option maxHeartbeats 3200000 in
theorem rfetch_any (w : World) (P : st.Pl) (f : Nat → Int) (s : st.S) (h : IsRM w P f s) :
    Calls Tryz.prog 31 #[.pointer (some ⟨P.p, 0, none⟩)] w (FetchPost (st.fetchS f P.n s).1 (st.fetchS f P.n s).2 w) := by
  have hl := h.lt
  have hpc := h.ok.pc
  have c32 := h.pcC
  have c34 := h.codeC
  have hsm := h.small
  obtain ⟨pc, hpe⟩ : ∃ pc, s.pc = pc := ⟨_, rfl⟩
  rw [hpe] at hpc c32
  unfold st.isU at hpc
  obtain ⟨hp0, hp1⟩ := hpc
  obtain ⟨R, hR⟩ : ∃ R, st.fetchS f P.n s = R := ⟨_, rfl⟩
  rw [hR]
  have HRe : Hid (R = if pc % 4 ≠ 0 then (st.inZero, 3) else if pc < 4294967296 ∨ (P.n : Int) ≤ (pc - 4294967296) / 4 then (st.inZero, 4) else if (st.toldOf (f ((pc - 4294967296) / 4).toNat)).e ≠ 0 then (st.inZero, 2) else ((st.toldOf (f ((pc - 4294967296) / 4).toNat)).i, 0)) := bl.hid (by rw [← hR, ← hpe]; rfl)
  have HB : Hid (∀ r : World, (∃ c, r = w.alloc c) → Below w.heap.size w r) := bl.hid (fun r h => by obtain ⟨c, rfl⟩ := h; exact (Below.refl _ _).alloc (Nat.le_refl _) _)
  have HG : Hid (∀ n, ((w.alloc (.cells #[.int .i64 0, .int .i64 0, .int .i64 0, .int .i64 0, .int .i64 0] 71)).drewN n).heap[w.heap.size]? = some (.cells #[.int .i64 0, .int .i64 0, .int .i64 0, .int .i64 0, .int .i64 0] 71 (0, 0))) := bl.hid (fun n => heap_alloc_new _ _)
  have HM := bl.hid h
  clear h hR hpe
  by_cases h4 : pc % 4 = 0
  rotate_left
  · have h4' : (pc % 4 != 0) = true := by simpa using h4
    have HE : Hid (∀ w', Below w.heap.size w w' → FetchPost R.1 R.2 w (.returned (.tuple #[.agg #[.int .i64 0, .int .i64 0, .int .i64 0, .int .i64 0, .int .i64 0], .int .i64 3])) w') := bl.hid (by rw [HRe.out, if_pos h4]; exact fun w' hb => ⟨rfl, hb⟩)
    clear h4
    go_enter Tryz.func31, Tryz.ntmps31
    go_wp2
    refine bodyPost_ret (kt.results_row_tmp rfl _ _ w.heap.size 71 _ (0, 0) _ rfl (heap_alloc_new _ _) Tryz.underlying71 rfl rv_info) rfl ?_
    exact HE.out _ (HB.out _ ⟨_, rfl⟩)
  by_cases hb : pc < 4294967296
  · have HE : Hid (∀ w', Below w.heap.size w w' → FetchPost R.1 R.2 w (.returned (.tuple #[.agg #[.int .i64 0, .int .i64 0, .int .i64 0, .int .i64 0, .int .i64 0], .int .i64 4])) w') := bl.hid (by rw [HRe.out, if_neg (by simp [h4]), if_pos (.inl hb)]; exact fun w' hb => ⟨rfl, hb⟩)
    have hd : decide (pc < 4294967296) = true := decide_eq_true hb
    clear hb
    go_enter Tryz.func31, Tryz.ntmps31
    go_wp2
    go_quiet (fail)
    go_wp2_with (refine wpList_store_row rfl 71 _ _ rfl w.heap.size #[.int .i64 0, .int .i64 0, .int .i64 0, .int .i64 0, .int .i64 0] rfl rfl 71 _ (HG.out _) rv_info rfl (rv_one _ _ _ _ _) ?_)
    refine bodyPost_ret (kt.results_row_tmp rfl _ _ w.heap.size 71 _ (0, 0) _ rfl (setRow_heap _ _ _ _ _ _ (HG.out _)) Tryz.underlying71 rfl rv_info) rfl ?_
    exact HE.out _ ((HB.out _ ⟨_, rfl⟩).drewN' _ |>.trans ⟨rfl, rfl, rfl, by simp, fun k hk => setRow_other _ _ _ _ (by omega)⟩)
  obtain ⟨k, hk⟩ : ∃ k : Nat, pc = 4294967296 + 4 * k := ⟨((pc - 4294967296) / 4).toNat, by omega⟩
  have hq : (pc - 4294967296) / 4 = k := by omega
  rw [hq, Int.toNat_natCast] at HRe
  have hw : IntKind.u64.wrap (pc - 4294967296) = 4 * k := by rw [wrap_u]; unfold st.u64; omega
  have hw2 : (4 * (k : Int)) / 4 = k := by omega
  have hw3 : (4 * (k : Int)).tdiv 4 = k := by rw [Int.tdiv_eq_ediv_of_nonneg (by omega)]; omega
  have hd : decide (pc < 4294967296) = false := decide_eq_false hb
  have hk8 : (0 : Int) ≤ k := by omega
  have hwk : IntKind.u64.wrap (k : Int) = k := by rw [wrap_u]; unfold st.u64; omega
  have hk9 : (k : Int) < 4611686018427387904 := by omega
  clear hq hk
  by_cases hn : P.n ≤ k
  · have HE : Hid (∀ w', Below w.heap.size w w' → FetchPost R.1 R.2 w (.returned (.tuple #[.agg #[.int .i64 0, .int .i64 0, .int .i64 0, .int .i64 0, .int .i64 0], .int .i64 4])) w') := bl.hid (by rw [HRe.out, if_neg (by simp [h4]), if_pos (.inr (by omega))]; exact fun w' hb => ⟨rfl, hb⟩)
    have hn2 : (P.n : Int) ≤ k := by omega
    have hd2 : decide ((P.n : Int) ≤ k) = true := decide_eq_true hn2
    clear hb HRe
    go_enter Tryz.func31, Tryz.ntmps31
    go_wp2
    go_quiet (fail)
    go_wp2_with (refine wpList_store_row rfl 71 _ _ rfl w.heap.size #[.int .i64 0, .int .i64 0, .int .i64 0, .int .i64 0, .int .i64 0] rfl rfl 71 _ (HG.out _) rv_info rfl (rv_one _ _ _ _ _) ?_)
    refine bodyPost_ret (kt.results_row_tmp rfl _ _ w.heap.size 71 _ (0, 0) _ rfl (setRow_heap _ _ _ _ _ _ (HG.out _)) Tryz.underlying71 rfl rv_info) rfl ?_
    exact HE.out _ ((HB.out _ ⟨_, rfl⟩).drewN' _ |>.trans ⟨rfl, rfl, rfl, by simp, fun k hk => setRow_other _ _ _ _ (by omega)⟩)
  have hkn : k < P.n := by omega
  have hkn2 : (k : Int) < P.n := by omega
  have hd2 : decide ((P.n : Int) ≤ k) = false := decide_eq_false (by omega)
  rw [if_neg (by simp [h4]), if_neg (by omega)] at HRe
  obtain ⟨cb, hca, rest, hrow⟩ : ∃ b, P.ca = some ⟨b, 0, none⟩ ∧ ∃ rest, w.heap[b]? = some (.cells ((List.range P.n).map (fun i => Value.int .u32 (f i)) ++ rest).toArray 97 (0, 0)) := by
    rcases HM.out.told with h | h
    · omega
    · exact h
  have hcell : w.cell? ⟨cb, k, none⟩ = some (.int .u32 (f k)) := by
    rw [cell_of_row _ _ _ _ _ _ hrow, List.getElem?_toArray, List.getElem?_append_left (by simpa using hkn)]
    simp [hkn]
  have hfk := HM.out.words k hkn
  obtain ⟨v, hv⟩ : ∃ v, f k = v := ⟨_, rfl⟩
  rw [hv] at hcell hfk HRe
  rw [hca] at c34
  have hcb : cb < w.heap.size := block_lt_of_cell hcell
  obtain ⟨r1, r2⟩ := st.toldOf_row v
  have HDec := bl.hid (fun w => rdecode_any v hfk.1 hfk.2 w)
  rw [r1, r2] at HDec
  obtain ⟨⟨⟨op, rd, rs1, rs2, im⟩, te⟩, ht⟩ : ∃ t, st.toldOf v = t := ⟨_, rfl⟩
  rw [ht] at HDec HRe
  unfold st.In.cells at HDec
  dsimp only at HDec HRe
  clear hb hrow hn hca hv hfk r1 r2 ht hk9
  go_enter Tryz.func31, Tryz.ntmps31
  go_wp2
  go_quiet (fail)
  go_wp2_with fail
  refine kt.forget (fun wz => Below w.heap.size w wz ∧ wz.heap[w.heap.size]? = some (.cells #[.int .i64 0, .int .i64 0, .int .i64 0, .int .i64 0, .int .i64 0] 71 (0, 0)) ∧ w.heap.size < wz.heap.size) ?hXA ?_
  case hXA => exact ⟨(HB.out _ ⟨_, rfl⟩).drewN' _, HG.out _, by show w.heap.size < (w.alloc _).heap.size; rw [World.size_alloc]; omega⟩
  rintro wz ⟨hbz, hgz, lz⟩
  have HBz := bl.hid hbz
  have HGz := bl.hid hgz
  have HS : Hid (∀ wx, Below wz.heap.size wz wx → wx.cell? ⟨P.p, 34, none⟩ = some (.slice (some ⟨cb, 0, none⟩) P.n P.c) ∧ wx.cell? ⟨P.p, 32, none⟩ = some (.int .u64 pc) ∧ wx.cell? ⟨cb, k, none⟩ = some (.int .u32 v) ∧ cb < wx.heap.size ∧ P.p < wx.heap.size) := bl.hid (fun wx hb => by
    have hb2 := HBz.out.trans (hb.mono (by omega))
    have := hb2.size
    exact ⟨(hb2.cell hl).trans c34, (hb2.cell hl).trans c32, (hb2.cell hcb).trans hcell, by omega, by omega⟩)
  have HD2 : Hid (∀ wx, Below wz.heap.size wz wx → Calls Tryz.prog 53 #[.int .u32 v] wx fun e w2 => e = .returned (.tuple #[.agg #[.int .i64 op, .int .i64 rd, .int .i64 rs1, .int .i64 rs2, .int .i64 im], .int .i64 te]) ∧ Below wz.heap.size wz w2 ∧ Below wx.heap.size wx w2) := bl.hid (fun wx hb => (HDec.out wx).mono (fun e w2 q => ⟨q.1, hb.trans (q.2.mono hb.size), q.2⟩))
  have HBa : Hid (Below wz.heap.size wz wz.drew) := bl.hid (Below.refl _ _).drew
  have HBb : Hid (∀ o, Below wz.heap.size wz (wz.alloc o).drew) := bl.hid (fun o => ((Below.refl _ _).alloc (Nat.le_refl _) o).drew)
  have HZ : Hid (∀ wx, Below ((wz.alloc (.cells #[.int .i64 0, .int .i64 0, .int .i64 0, .int .i64 0, .int .i64 0] 71)).drew).heap.size ((wz.alloc (.cells #[.int .i64 0, .int .i64 0, .int .i64 0, .int .i64 0, .int .i64 0] 71)).drew) wx → wx.heap[wz.heap.size]? = some (.cells #[.int .i64 0, .int .i64 0, .int .i64 0, .int .i64 0, .int .i64 0] 71 (0, 0))) := bl.hid (fun wx hb => (hb.block wz.heap.size (by show _ < (wz.alloc _).heap.size; rw [World.size_alloc]; omega)).trans (heap_alloc_new wz _))
  obtain ⟨k34, k32, kcb, kl, kp⟩ := HS.out wz (Below.refl _ _)
  clear c34 c32 hcell hbz hgz HG HB HDec hl hcb
  have e1 : wz.heap.size ≠ cb := by omega
  have e2 : wz.heap.size ≠ P.p := by omega
  go_region_held3 (fun w' => w'.cell? ⟨P.p, 34, none⟩ = some (.slice (some ⟨cb, 0, none⟩) P.n P.c) ∧ w'.cell? ⟨P.p, 32, none⟩ = some (.int .u64 pc) ∧ w'.cell? ⟨cb, k, none⟩ = some (.int .u32 v)) ((first | with_reducible assumption | go_keep))
    ((first
      | (go_at_call 53; with_reducible refine (HD2.out _ HBa.out).mono ?_; rintro e w2 ⟨rfl, hb2, hbx⟩; obtain ⟨j34, j32, jcb, jl, jp⟩ := HS.out _ hb2; have HB2 := bl.hid hb2; have HBx := bl.hid hbx; clear hb2 hbx)
      | (go_at_call 53; with_reducible refine (HD2.out _ (HBb.out _)).mono ?_; rintro e w2 ⟨rfl, hb2, hbx⟩; obtain ⟨j34, j32, jcb, jl, jp⟩ := HS.out _ hb2; have hr2 := HZ.out _ hbx; have HR2 := bl.hid hr2; have z0 := (cell_of_row _ _ 0 _ _ _ hr2).trans rfl; have z1 := (cell_of_row _ _ 1 _ _ _ hr2).trans rfl; have z2 := (cell_of_row _ _ 2 _ _ _ hr2).trans rfl; have z3 := (cell_of_row _ _ 3 _ _ _ hr2).trans rfl; have z4 := (cell_of_row _ _ 4 _ _ _ hr2).trans rfl; have f0 := frozen_of_row _ _ 0 _ _ hr2; have f1 := frozen_of_row _ _ 1 _ _ hr2; have f2 := frozen_of_row _ _ 2 _ _ hr2; have f3 := frozen_of_row _ _ 3 _ _ hr2; have f4 := frozen_of_row _ _ 4 _ _ hr2; clear hr2; have HB2 := bl.hid hb2; clear hbx hb2)))
  · go_upto_region 6 with (fail)
    refine kt.forget (fun wy => Below w.heap.size w wy ∧ wy.heap[w.heap.size]? = some (.cells #[.int .i64 0, .int .i64 0, .int .i64 0, .int .i64 0, .int .i64 0] 71 (0, 0)) ∧ wy.heap[w2.heap.size]? = some (.cells #[.int .i64 op, .int .i64 rd, .int .i64 rs1, .int .i64 rs2, .int .i64 im] 71 (0, 0))) ?hXB ?_
    case hXB =>
      have hb := (HBz.out.trans (HB2.out.mono (by omega))).alloc (by have := (HBz.out.trans (HB2.out.mono (by omega))).size; exact this) (.cells #[.int .i64 op, .int .i64 rd, .int .i64 rs1, .int .i64 rs2, .int .i64 im] 71)
      exact ⟨hb, (heap_alloc_old _ _ (by have := HB2.out.size; omega)).trans ((HB2.out.block _ lz).trans HGz.out), heap_alloc_new _ _⟩
    rintro wy ⟨hby, hgy, hry⟩
    have HBy := bl.hid hby
    have HGy := bl.hid hgy
    have y0 := (cell_of_row _ _ 0 _ _ _ hry).trans rfl
    have y1 := (cell_of_row _ _ 1 _ _ _ hry).trans rfl
    have y2 := (cell_of_row _ _ 2 _ _ _ hry).trans rfl
    have y3 := (cell_of_row _ _ 3 _ _ _ hry).trans rfl
    have y4 := (cell_of_row _ _ 4 _ _ _ hry).trans rfl
    clear hby hgy hry
    by_cases he : te = 0
    · subst he
      have HE : Hid (∀ w', Below w.heap.size w w' → FetchPost R.1 R.2 w (.returned (.tuple #[.agg #[.int .i64 op, .int .i64 rd, .int .i64 rs1, .int .i64 rs2, .int .i64 im], .int .i64 0])) w') := bl.hid (by rw [HRe.out, if_neg (by simp)]; exact fun w' hb => ⟨rfl, hb⟩)
      go_wp2_with (refine wpList_store_row rfl 71 _ _ rfl w.heap.size #[.int .i64 op, .int .i64 rd, .int .i64 rs1, .int .i64 rs2, .int .i64 im] rfl rfl 71 _ HGy.out rv_info rfl (rv_one _ _ _ _ _) ?_)
      refine bodyPost_ret (kt.results_row_tmp rfl _ _ w.heap.size 71 _ (0, 0) _ rfl (setRow_heap _ _ _ _ _ _ HGy.out) Tryz.underlying71 rfl rv_info) rfl ?_
      exact HE.out _ (HBy.out.trans ⟨rfl, rfl, rfl, by simp, fun k hk => setRow_other _ _ _ _ (by omega)⟩)
    · have HE : Hid (∀ w', Below w.heap.size w w' → FetchPost R.1 R.2 w (.returned (.tuple #[.agg #[.int .i64 0, .int .i64 0, .int .i64 0, .int .i64 0, .int .i64 0], .int .i64 2])) w') := bl.hid (by rw [HRe.out, if_pos he]; exact fun w' hb => ⟨rfl, hb⟩)
      have he' : (te != 0) = true := by simpa using he
      clear he
      go_wp2_with (refine wpList_store_row rfl 71 _ _ rfl w.heap.size #[.int .i64 0, .int .i64 0, .int .i64 0, .int .i64 0, .int .i64 0] rfl rfl 71 _ HGy.out rv_info rfl (rv_one _ _ _ _ _) ?_)
      refine bodyPost_ret (kt.results_row_tmp rfl _ _ w.heap.size 71 _ (0, 0) _ rfl (setRow_heap _ _ _ _ _ _ HGy.out) Tryz.underlying71 rfl rv_info) rfl ?_
      exact HE.out _ (HBy.out.trans ⟨rfl, rfl, rfl, by simp, fun k hk => setRow_other _ _ _ _ (by omega)⟩)
  · go_upto_region 6 with (fail)
    refine kt.forget (fun wy => Below w.heap.size w wy ∧ wy.heap[w.heap.size]? = some (.cells #[.int .i64 0, .int .i64 0, .int .i64 0, .int .i64 0, .int .i64 0] 71 (0, 0)) ∧ wy.heap[wz.heap.size]? = some (.cells #[.int .i64 op, .int .i64 rd, .int .i64 rs1, .int .i64 rs2, .int .i64 im] 71 (0, 0))) ?hXB ?_
    case hXB =>
      obtain ⟨q1, q2⟩ := set5 w2 wz.heap.size _ _ _ _ _ (.int .i64 op) (.int .i64 rd) (.int .i64 rs1) (.int .i64 rs2) (.int .i64 im) _ HR2.out
      exact ⟨(HBz.out.trans (HB2.out.mono (by omega))).trans (q2.below (by omega)), (q2.block _ (by omega)).trans ((HB2.out.block _ lz).trans HGz.out), q1⟩
    rintro wy ⟨hby, hgy, hry⟩
    have HBy := bl.hid hby
    have HGy := bl.hid hgy
    have y0 := (cell_of_row _ _ 0 _ _ _ hry).trans rfl
    have y1 := (cell_of_row _ _ 1 _ _ _ hry).trans rfl
    have y2 := (cell_of_row _ _ 2 _ _ _ hry).trans rfl
    have y3 := (cell_of_row _ _ 3 _ _ _ hry).trans rfl
    have y4 := (cell_of_row _ _ 4 _ _ _ hry).trans rfl
    clear hby hgy hry
    by_cases he : te = 0
    · subst he
      have HE : Hid (∀ w', Below w.heap.size w w' → FetchPost R.1 R.2 w (.returned (.tuple #[.agg #[.int .i64 op, .int .i64 rd, .int .i64 rs1, .int .i64 rs2, .int .i64 im], .int .i64 0])) w') := bl.hid (by rw [HRe.out, if_neg (by simp)]; exact fun w' hb => ⟨rfl, hb⟩)
      go_wp2_with (refine wpList_store_row rfl 71 _ _ rfl w.heap.size #[.int .i64 op, .int .i64 rd, .int .i64 rs1, .int .i64 rs2, .int .i64 im] rfl rfl 71 _ HGy.out rv_info rfl (rv_one _ _ _ _ _) ?_)
      refine bodyPost_ret (kt.results_row_tmp rfl _ _ w.heap.size 71 _ (0, 0) _ rfl (setRow_heap _ _ _ _ _ _ HGy.out) Tryz.underlying71 rfl rv_info) rfl ?_
      exact HE.out _ (HBy.out.trans ⟨rfl, rfl, rfl, by simp, fun k hk => setRow_other _ _ _ _ (by omega)⟩)
    · have HE : Hid (∀ w', Below w.heap.size w w' → FetchPost R.1 R.2 w (.returned (.tuple #[.agg #[.int .i64 0, .int .i64 0, .int .i64 0, .int .i64 0, .int .i64 0], .int .i64 2])) w') := bl.hid (by rw [HRe.out, if_pos he]; exact fun w' hb => ⟨rfl, hb⟩)
      have he' : (te != 0) = true := by simpa using he
      clear he
      go_wp2_with (refine wpList_store_row rfl 71 _ _ rfl w.heap.size #[.int .i64 0, .int .i64 0, .int .i64 0, .int .i64 0, .int .i64 0] rfl rfl 71 _ HGy.out rv_info rfl (rv_one _ _ _ _ _) ?_)
      refine bodyPost_ret (kt.results_row_tmp rfl _ _ w.heap.size 71 _ (0, 0) _ rfl (setRow_heap _ _ _ _ _ _ HGy.out) Tryz.underlying71 rfl rv_info) rfl ?_
      exact HE.out _ (HBy.out.trans ⟨rfl, rfl, rfl, by simp, fun k hk => setRow_other _ _ _ _ (by omega)⟩)
end Go.Proofs.YtjjkocklpcdbkaaGreat
