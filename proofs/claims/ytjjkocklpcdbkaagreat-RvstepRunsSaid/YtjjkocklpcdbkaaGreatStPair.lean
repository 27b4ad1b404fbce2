/- pair, walked. -/
import Derived.Test.YtjjkocklpcdbkaaGreatStLoad
namespace Go.Proofs.YtjjkocklpcdbkaaGreat
open Go.RowKit
set_option linter.unusedVariables false
set_option maxRecDepth 100000
theorem set3 (w : World) (b : Nat) (u v t x y z : Value) (h0 : w.cell? ⟨b, 0, none⟩ = some x) (h1 : w.cell? ⟨b, 1, none⟩ = some y) (h2 : w.cell? ⟨b, 2, none⟩ = some z) :
    (((w.setCell ⟨b, 0, none⟩ u).setCell ⟨b, 1, none⟩ v).setCell ⟨b, 2, none⟩ t).cell? ⟨b, 0, none⟩ = some u ∧ (((w.setCell ⟨b, 0, none⟩ u).setCell ⟨b, 1, none⟩ v).setCell ⟨b, 2, none⟩ t).cell? ⟨b, 1, none⟩ = some v ∧ (((w.setCell ⟨b, 0, none⟩ u).setCell ⟨b, 1, none⟩ v).setCell ⟨b, 2, none⟩ t).cell? ⟨b, 2, none⟩ = some t := by
  have n02 : (⟨b, 2, none⟩ : Addr) ≠ ⟨b, 0, none⟩ := by intro e; injection e with e1 e2 e3; cases e2
  have n12 : (⟨b, 2, none⟩ : Addr) ≠ ⟨b, 1, none⟩ := by intro e; injection e with e1 e2 e3; cases e2
  obtain ⟨ha, hb⟩ := set2 w b u v x y h0 h1
  have hc : ((w.setCell ⟨b, 0, none⟩ u).setCell ⟨b, 1, none⟩ v).cell? ⟨b, 2, none⟩ = some z := (World.cell?_setCell_other _ _ _ _ n12.symm).trans ((World.cell?_setCell_other _ _ _ _ n02.symm).trans h2)
  exact ⟨(World.cell?_setCell_other _ _ _ _ n02).trans ha, (World.cell?_setCell_other _ _ _ _ n12).trans hb, World.cell?_setCell_same _ _ _ hc⟩
theorem halfV_bd (fn x y : Int) (x0 : 0 ≤ x) (x1 : x < 18446744073709551616) (y0 : 0 ≤ y) (y1 : y < 18446744073709551616) : 0 ≤ wd.halfV fn x y ∧ wd.halfV fn x y < 18446744073709551616 := by
  have hX : 0 ≤ wd.halfX fn x ∧ wd.halfX fn x < 18446744073709551616 := by
    unfold wd.halfX
    split
    · exact sx_bd x 4 x0 x1
    · exact zx_bd x 4 x0 x1
  have hY : 0 ≤ wd.halfY fn y ∧ wd.halfY fn y < 18446744073709551616 := by
    unfold wd.halfY
    split
    · exact sx_bd y 4 y0 y1
    · split
      · have := zx_bd y 4 y0 y1
        omega
      · exact zx_bd y 4 y0 y1
  have hD := doV_bd fn (wd.halfX fn x) (wd.halfY fn y) hX.1 hX.2 hY.1 hY.2
  unfold wd.halfV
  split
  · exact sx_bd _ 4 hD.1 hD.2
  · omega
set_option maxHeartbeats 6400000 in
theorem mpair_any (w : World) (P : st.Pl) (code : Nat → st.Told) (s : st.S) (i : st.In) (h : IsMach w P code s) (hi : st.InOk i) (h5 : 22 ≤ i.op) (h10 : i.op ≤ 62) :
    Calls Tryz.prog 89 #[.pointer (some ⟨P.p, 0, none⟩), .agg i.cells] w (TurnPost P code (.int .i64 0) (st.exPair i s) w) := by
  obtain ⟨op, rd, rs1, rs2, im⟩ := i
  show Calls Tryz.prog 89 #[.pointer (some ⟨P.p, 0, none⟩), .agg #[.int .i64 op, .int .i64 rd, .int .i64 rs1, .int .i64 rs2, .int .i64 im]] w _
  have hl := h.lt
  have him := hi.im
  have hr1 := hi.rs1
  have hr2 := hi.rs2
  have hrd := hi.rd
  dsimp only at him hr1 hr2 hrd h5 h10
  obtain ⟨k1, hk1⟩ : ∃ k1 : Nat, rs1 = k1 := ⟨rs1.toNat, by omega⟩
  obtain ⟨k2, hk2⟩ : ∃ k2 : Nat, rs2 = k2 := ⟨rs2.toNat, by omega⟩
  obtain ⟨ko, hko⟩ : ∃ ko : Nat, op = ko := ⟨op.toNat, by omega⟩
  subst hk1 hk2 hko
  have hk1 : k1 < 32 := by omega
  have hk2 : k2 < 32 := by omega
  have hk64 : ko < 64 := by omega
  have HM := bl.hid (h.keep (kt.below_row (w := w) (.cells #[.int .i64 ko, .int .i64 rd, .int .i64 k1, .int .i64 k2, .int .i64 im] 71)))
  have HBl : Hid (Below w.heap.size w (w.alloc (.cells #[.int .i64 ko, .int .i64 rd, .int .i64 k1, .int .i64 k2, .int .i64 im] 71))) := bl.hid (kt.below_row _)
  have hru := h.ok.r k1 hk1
  have hrv := h.ok.r k2 hk2
  obtain ⟨x, hx⟩ : ∃ x, s.r k1 = x := ⟨_, rfl⟩
  obtain ⟨y, hy⟩ : ∃ y, s.r k2 = y := ⟨_, rfl⟩
  rw [hx] at hru
  rw [hy] at hrv
  have HXu := bl.hid hru
  have HYu := bl.hid hrv
  obtain ⟨W0, hW0⟩ : ∃ W0, w.alloc (.cells #[.int .i64 ko, .int .i64 rd, .int .i64 k1, .int .i64 k2, .int .i64 im] 71) = W0 := ⟨_, rfl⟩
  have hs0 : W0.heap.size = w.heap.size + 1 := by rw [← hW0]; exact World.size_alloc _ _
  have hx0 : W0.heap[w.heap.size]? = some (.cells #[.int .i64 ko, .int .i64 rd, .int .i64 k1, .int .i64 k2, .int .i64 im] 71 (0, 0)) := by rw [← hW0]; exact heap_alloc_new _ _
  rw [hW0] at HM HBl
  have hlt0 : w.heap.size < W0.heap.size := by omega
  have HS : Hid (∀ w1, Below W0.heap.size W0 w1 → (w1.cell? ⟨P.p, k1, none⟩ = some (.int .u64 x) ∧ w1.cell? ⟨P.p, k2, none⟩ = some (.int .u64 y) ∧ w1.cell? ⟨w.heap.size, 0, none⟩ = some (.int .i64 ko) ∧ w1.cell? ⟨w.heap.size, 1, none⟩ = some (.int .i64 rd) ∧ w1.cell? ⟨w.heap.size, 2, none⟩ = some (.int .i64 k1) ∧ w1.cell? ⟨w.heap.size, 3, none⟩ = some (.int .i64 k2) ∧ w1.cell? ⟨w.heap.size, 4, none⟩ = some (.int .i64 im)) ∧ IsMach w1 P code s ∧ w.heap.size < w1.heap.size) := bl.hid (fun w1 hb => by
    have hm := HM.out.keep hb
    have hr := (hb.block w.heap.size (by omega)).trans hx0
    refine ⟨⟨?_, ?_, (cell_of_row _ _ _ _ _ _ hr).trans rfl, (cell_of_row _ _ _ _ _ _ hr).trans rfl, (cell_of_row _ _ _ _ _ _ hr).trans rfl, (cell_of_row _ _ _ _ _ _ hr).trans rfl, (cell_of_row _ _ _ _ _ _ hr).trans rfl⟩, hm, Nat.lt_of_lt_of_le hlt0 hb.size⟩
    · rw [← hx]; exact hm.regC k1 hk1
    · rw [← hy]; exact hm.regC k2 hk2)
  have hpix := pair_index ko hk64
  have HPr : Hid (∀ wx, Below W0.heap.size W0 wx → Calls Tryz.prog 106 #[] wx fun e w1 => e = .returned (.agg st.prArr) ∧ Below W0.heap.size W0 w1 ∧ Below wx.heap.size wx w1 ∧ w1.cell? ⟨w.heap.size, 0, none⟩ = some (.int .i64 ko) ∧ w.heap.size < w1.heap.size) := bl.hid (fun wx hb => (pairings_any wx).mono (fun e w1 q => by
    have hb2 := hb.trans (q.2.mono hb.size)
    exact ⟨q.1, hb2, q.2, (HS.out w1 hb2).1.2.2.1, (HS.out w1 hb2).2.2⟩))
  obtain ⟨fn, hfn⟩ : ∃ fn, (st.pr ko).1 = fn := ⟨_, rfl⟩
  obtain ⟨half, hhalf⟩ : ∃ half, (st.pr ko).2.1 = half := ⟨_, rfl⟩
  obtain ⟨imm, himm⟩ : ∃ imm, (st.pr ko).2.2 = imm := ⟨_, rfl⟩
  have hrow : st.prRow ko = #[.int .i64 fn, .bool half, .bool imm] := by unfold st.prRow; rw [hfn, hhalf, himm]
  rw [hrow] at hpix
  obtain ⟨PA, hPA⟩ : ∃ PA, st.prArr = PA := ⟨_, rfl⟩
  rw [hPA] at hpix HPr
  have HEx : Hid (∀ T, (imm = true → T = st.u64 im) → (imm = false → T = y) → st.exPair ⟨ko, rd, k1, k2, im⟩ s = (s.put rd (if half then wd.halfV fn x T else wd.doV fn x T)).nxt) := bl.hid (fun T h1 h2 => by
    unfold st.exPair st.prV st.prT st.S.rg
    dsimp only
    rw [Int.toNat_natCast, Int.toNat_natCast, Int.toNat_natCast, hfn, hhalf, himm, hx, hy]
    cases imm
    · rw [h2 rfl]; rfl
    · rw [h1 rfl]; rfl)
  have HTu : Hid (∀ T, (imm = true → T = st.u64 im) → (imm = false → T = y) → st.isU T) := bl.hid (fun T h1 h2 => by
    cases imm
    · rw [h2 rfl]; exact HYu.out
    · rw [h1 rfl]; exact st.u64_isU _)
  have HZ : Hid (∀ w1, Below ((W0.alloc (.cells #[.int .i64 0, .bool false, .bool false] 150)).drew).heap.size ((W0.alloc (.cells #[.int .i64 0, .bool false, .bool false] 150)).drew) w1 → w1.cell? ⟨w.heap.size + 1, 0, none⟩ = some (.int .i64 0) ∧ w1.cell? ⟨w.heap.size + 1, 1, none⟩ = some (.bool false) ∧ w1.cell? ⟨w.heap.size + 1, 2, none⟩ = some (.bool false) ∧ w1.frozen? ⟨w.heap.size + 1, 0, none⟩ = false ∧ w1.frozen? ⟨w.heap.size + 1, 1, none⟩ = false ∧ w1.frozen? ⟨w.heap.size + 1, 2, none⟩ = false) := bl.hid (fun w1 hb => by
    have := (hb.block W0.heap.size (by show _ < (W0.alloc (.cells #[.int .i64 0, .bool false, .bool false] 150)).heap.size; rw [World.size_alloc]; exact Nat.lt_succ_self _)).trans (heap_alloc_new W0 (.cells #[.int .i64 0, .bool false, .bool false] 150))
    rw [hs0] at this
    exact ⟨(cell_of_row _ _ _ _ _ _ this).trans rfl, (cell_of_row _ _ _ _ _ _ this).trans rfl, (cell_of_row _ _ _ _ _ _ this).trans rfl, frozen_of_row _ _ _ _ _ this, frozen_of_row _ _ _ _ _ this, frozen_of_row _ _ _ _ _ this⟩)
  have HD : Hid (Below W0.heap.size W0 W0.drew) := bl.hid (Below.refl _ _).drew
  have HDA : Hid (∀ o, Below W0.heap.size W0 (W0.alloc o).drew) := bl.hid (fun o => ((Below.refl _ _).alloc (Nat.le_refl _) o).drew)
  have HRd := bl.hid hrd
  obtain ⟨R, hR⟩ : ∃ R, st.exPair ⟨ko, rd, k1, k2, im⟩ s = R := ⟨_, rfl⟩
  rw [hR] at HEx ⊢
  have e0 := (HS.out W0 (Below.refl _ _)).1.2.2.1
  have j0 : (0 : Int) ≤ (k1 : Int) := by omega
  have j1 : (k1 : Int) < 32 := by omega
  have j2 : (0 : Int) ≤ (k2 : Int) := by omega
  have j3 : (k2 : Int) < 32 := by omega
  clear h hi hx hy hx0 hR hfn hhalf himm hrow hPA hr1 hr2 hru hrv hrd
  go_enter Tryz.func89, Tryz.ntmps89
  go_wp2
  clear hW0
  go_region_held3 (fun w' => w'.cell? ⟨w.heap.size, 0, none⟩ = some (.int .i64 ko)) ((first | with_reducible assumption | go_keep))
    ((first
      | (go_at_call 106; with_reducible refine (HPr.out _ HD.out).mono ?_; rintro e w1 ⟨rfl, hb0, hbx, x0, lt1⟩; have HB0 := bl.hid hb0; clear hb0 hbx)
      | (go_at_call 106; with_reducible refine (HPr.out _ (HDA.out _)).mono ?_; rintro e w1 ⟨rfl, hb0, hbx, x0, lt1⟩; obtain ⟨hz0, hz1, hz2, hf0, hf1, hf2⟩ := HZ.out _ hbx; have HB0 := bl.hid hb0; clear hb0 hbx)))
  · go_upto_region 2 with (fail)
    refine kt.forget (fun wz => Below W0.heap.size W0 wz ∧ wz.cell? ⟨w1.heap.size, 0, none⟩ = some (.int .i64 fn) ∧ wz.cell? ⟨w1.heap.size, 1, none⟩ = some (.bool half) ∧ wz.cell? ⟨w1.heap.size, 2, none⟩ = some (.bool imm) ∧ w1.heap.size < wz.heap.size) ?hXA ?_
    case hXA =>
      exact ⟨HB0.out.alloc HB0.out.size _, (cell_of_row _ _ _ _ _ _ (heap_alloc_new _ _)).trans rfl, (cell_of_row _ _ _ _ _ _ (heap_alloc_new _ _)).trans rfl, (cell_of_row _ _ _ _ _ _ (heap_alloc_new _ _)).trans rfl, by rw [World.size_alloc]; exact Nat.lt_succ_self _⟩
    rintro wz ⟨hbz, z0, z1, z2, zl⟩
    obtain ⟨⟨r1, r2, b0, b1, b2, b3, b4⟩, hmz, bz⟩ := HS.out _ hbz
    have pz := hmz.lt
    have HBz := bl.hid hbz
    have HMz := bl.hid hmz
    have HBd : Hid (∀ m, Below wz.heap.size wz (wz.drewN m)) := bl.hid (fun m => (Below.refl _ _).drewN' m)
    have HDo : Hid (∀ T, st.isU T → ∀ wx, Below wz.heap.size wz wx → Calls Tryz.prog 107 #[.int .i64 fn, .int .u64 x, .int .u64 T] wx fun e w2 => e = .returned (.tuple #[.int .u64 (wd.doV fn x T), .int .i64 (wd.doE fn)]) ∧ Below wz.heap.size wz w2) := bl.hid (fun T hT wx hb => (do_any fn x T wx HXu.out.1 HXu.out.2 hT.1 hT.2).mono (fun e w2 q => ⟨q.1, hb.trans (q.2.mono hb.size)⟩))
    have HHf : Hid (∀ T, st.isU T → ∀ wx, Below wz.heap.size wz wx → Calls Tryz.prog 108 #[.int .i64 fn, .int .u64 x, .int .u64 T] wx fun e w2 => e = .returned (.tuple #[.int .u64 (wd.halfV fn x T), .int .i64 (wd.halfE fn)]) ∧ Below wz.heap.size wz w2) := bl.hid (fun T hT wx hb => (half_any fn x T wx HXu.out.1 HXu.out.2 hT.1 hT.2).mono (fun e w2 q => ⟨q.1, hb.trans (q.2.mono hb.size)⟩))
    clear hbz hmz e0
    cases imm
    · cases half
      · have HTT : Hid (st.isU (y)) := bl.hid HYu.out
        have HC1 := bl.hid (HDo.out (y) HTT.out)
        have HVu : Hid (st.isU (wd.doV fn x (y))) := bl.hid (doV_bd fn x (y) HXu.out.1 HXu.out.2 HTT.out.1 HTT.out.2)
        have HRe := bl.hid (HEx.out (y) (fun h => by cases h) (fun _ => rfl))
        go_quiet (fail)
        go_wp2
        go_region_held3 (fun w' => w'.cell? ⟨P.p, k1, none⟩ = some (.int .u64 x) ∧ w'.cell? ⟨w.heap.size, 2, none⟩ = some (.int .i64 k1) ∧ w'.cell? ⟨w1.heap.size, 0, none⟩ = some (.int .i64 fn)) ((first | with_reducible assumption | go_keep))
          ((first
            | (go_at_call 107; with_reducible refine (HC1.out _ (HBd.out _)).mono ?_; rintro e w2 ⟨rfl, hb2⟩; obtain ⟨⟨q1, q2, c0, c1, c2, c3, c4⟩, hm2, lz⟩ := HS.out _ (HBz.out.trans (hb2.mono HBz.out.size)); have y0 := (hb2.cell (p := ⟨w1.heap.size, 0, none⟩) zl).trans z0; have HB2 := bl.hid hb2; have HM2 := bl.hid hm2; clear hb2 hm2)))
        have HB02 : Hid (Below w.heap.size w w2) := bl.hid ((HBl.out.trans (HBz.out.mono (by omega))).trans (HB2.out.mono (by omega)))
        have HPt := bl.hid (put_any w2 P code s rd (wd.doV fn x (y)) HM2.out HRd.out HVu.out)
        go_wp2_with fail
        refine HPt.out.mono ?_
        rintro e w3 ⟨rfl, h3, h3b⟩
        have HN := bl.hid (next_any w3 P code _ h3)
        have H3 := bl.hid h3b
        clear h3 h3b
        go_wp2_with fail
        refine HN.out.mono ?_
        rintro e w4 ⟨rfl, h4, h4b⟩
        have HE : Hid (TurnPost P code (.int .i64 0) R w (.returned (.int .i64 0)) w4) := bl.hid (by rw [HRe.out]; exact ⟨rfl, h4, ((But2.of_below HB02.out).trans H3.out).trans h4b⟩)
        clear h4 h4b
        go_wp2
        go_ret
        exact HE.out
      · have HTT : Hid (st.isU (y)) := bl.hid HYu.out
        have HC1 := bl.hid (HHf.out (y) HTT.out)
        have HVu : Hid (st.isU (wd.halfV fn x (y))) := bl.hid (halfV_bd fn x (y) HXu.out.1 HXu.out.2 HTT.out.1 HTT.out.2)
        have HRe := bl.hid (HEx.out (y) (fun h => by cases h) (fun _ => rfl))
        go_quiet (fail)
        go_wp2
        go_region_held3 (fun w' => w'.cell? ⟨P.p, k1, none⟩ = some (.int .u64 x) ∧ w'.cell? ⟨w.heap.size, 2, none⟩ = some (.int .i64 k1) ∧ w'.cell? ⟨w1.heap.size, 0, none⟩ = some (.int .i64 fn)) ((first | with_reducible assumption | go_keep))
          ((first
            | (go_at_call 108; with_reducible refine (HC1.out _ (HBd.out _)).mono ?_; rintro e w2 ⟨rfl, hb2⟩; obtain ⟨⟨q1, q2, c0, c1, c2, c3, c4⟩, hm2, lz⟩ := HS.out _ (HBz.out.trans (hb2.mono HBz.out.size)); have y0 := (hb2.cell (p := ⟨w1.heap.size, 0, none⟩) zl).trans z0; have HB2 := bl.hid hb2; have HM2 := bl.hid hm2; clear hb2 hm2)))
        have HB02 : Hid (Below w.heap.size w w2) := bl.hid ((HBl.out.trans (HBz.out.mono (by omega))).trans (HB2.out.mono (by omega)))
        have HPt := bl.hid (put_any w2 P code s rd (wd.halfV fn x (y)) HM2.out HRd.out HVu.out)
        go_wp2_with fail
        refine HPt.out.mono ?_
        rintro e w3 ⟨rfl, h3, h3b⟩
        have HN := bl.hid (next_any w3 P code _ h3)
        have H3 := bl.hid h3b
        clear h3 h3b
        go_wp2_with fail
        refine HN.out.mono ?_
        rintro e w4 ⟨rfl, h4, h4b⟩
        have HE : Hid (TurnPost P code (.int .i64 0) R w (.returned (.int .i64 0)) w4) := bl.hid (by rw [HRe.out]; exact ⟨rfl, h4, ((But2.of_below HB02.out).trans H3.out).trans h4b⟩)
        clear h4 h4b
        go_wp2
        go_ret
        exact HE.out
    · cases half
      · have HTT : Hid (st.isU (IntKind.u64.wrap im)) := bl.hid (by rw [wrap_u]; exact st.u64_isU _)
        have HC1 := bl.hid (HDo.out (IntKind.u64.wrap im) HTT.out)
        have HVu : Hid (st.isU (wd.doV fn x (IntKind.u64.wrap im))) := bl.hid (doV_bd fn x (IntKind.u64.wrap im) HXu.out.1 HXu.out.2 HTT.out.1 HTT.out.2)
        have HRe := bl.hid (HEx.out (IntKind.u64.wrap im) (fun _ => wrap_u im) (fun h => by cases h))
        go_quiet (fail)
        go_wp2
        go_region_held3 (fun w' => w'.cell? ⟨P.p, k1, none⟩ = some (.int .u64 x) ∧ w'.cell? ⟨w.heap.size, 2, none⟩ = some (.int .i64 k1) ∧ w'.cell? ⟨w1.heap.size, 0, none⟩ = some (.int .i64 fn)) ((first | with_reducible assumption | go_keep))
          ((first
            | (go_at_call 107; with_reducible refine (HC1.out _ (HBd.out _)).mono ?_; rintro e w2 ⟨rfl, hb2⟩; obtain ⟨⟨q1, q2, c0, c1, c2, c3, c4⟩, hm2, lz⟩ := HS.out _ (HBz.out.trans (hb2.mono HBz.out.size)); have y0 := (hb2.cell (p := ⟨w1.heap.size, 0, none⟩) zl).trans z0; have HB2 := bl.hid hb2; have HM2 := bl.hid hm2; clear hb2 hm2)))
        have HB02 : Hid (Below w.heap.size w w2) := bl.hid ((HBl.out.trans (HBz.out.mono (by omega))).trans (HB2.out.mono (by omega)))
        have HPt := bl.hid (put_any w2 P code s rd (wd.doV fn x (IntKind.u64.wrap im)) HM2.out HRd.out HVu.out)
        go_wp2_with fail
        refine HPt.out.mono ?_
        rintro e w3 ⟨rfl, h3, h3b⟩
        have HN := bl.hid (next_any w3 P code _ h3)
        have H3 := bl.hid h3b
        clear h3 h3b
        go_wp2_with fail
        refine HN.out.mono ?_
        rintro e w4 ⟨rfl, h4, h4b⟩
        have HE : Hid (TurnPost P code (.int .i64 0) R w (.returned (.int .i64 0)) w4) := bl.hid (by rw [HRe.out]; exact ⟨rfl, h4, ((But2.of_below HB02.out).trans H3.out).trans h4b⟩)
        clear h4 h4b
        go_wp2
        go_ret
        exact HE.out
      · have HTT : Hid (st.isU (IntKind.u64.wrap im)) := bl.hid (by rw [wrap_u]; exact st.u64_isU _)
        have HC1 := bl.hid (HHf.out (IntKind.u64.wrap im) HTT.out)
        have HVu : Hid (st.isU (wd.halfV fn x (IntKind.u64.wrap im))) := bl.hid (halfV_bd fn x (IntKind.u64.wrap im) HXu.out.1 HXu.out.2 HTT.out.1 HTT.out.2)
        have HRe := bl.hid (HEx.out (IntKind.u64.wrap im) (fun _ => wrap_u im) (fun h => by cases h))
        go_quiet (fail)
        go_wp2
        go_region_held3 (fun w' => w'.cell? ⟨P.p, k1, none⟩ = some (.int .u64 x) ∧ w'.cell? ⟨w.heap.size, 2, none⟩ = some (.int .i64 k1) ∧ w'.cell? ⟨w1.heap.size, 0, none⟩ = some (.int .i64 fn)) ((first | with_reducible assumption | go_keep))
          ((first
            | (go_at_call 108; with_reducible refine (HC1.out _ (HBd.out _)).mono ?_; rintro e w2 ⟨rfl, hb2⟩; obtain ⟨⟨q1, q2, c0, c1, c2, c3, c4⟩, hm2, lz⟩ := HS.out _ (HBz.out.trans (hb2.mono HBz.out.size)); have y0 := (hb2.cell (p := ⟨w1.heap.size, 0, none⟩) zl).trans z0; have HB2 := bl.hid hb2; have HM2 := bl.hid hm2; clear hb2 hm2)))
        have HB02 : Hid (Below w.heap.size w w2) := bl.hid ((HBl.out.trans (HBz.out.mono (by omega))).trans (HB2.out.mono (by omega)))
        have HPt := bl.hid (put_any w2 P code s rd (wd.halfV fn x (IntKind.u64.wrap im)) HM2.out HRd.out HVu.out)
        go_wp2_with fail
        refine HPt.out.mono ?_
        rintro e w3 ⟨rfl, h3, h3b⟩
        have HN := bl.hid (next_any w3 P code _ h3)
        have H3 := bl.hid h3b
        clear h3 h3b
        go_wp2_with fail
        refine HN.out.mono ?_
        rintro e w4 ⟨rfl, h4, h4b⟩
        have HE : Hid (TurnPost P code (.int .i64 0) R w (.returned (.int .i64 0)) w4) := bl.hid (by rw [HRe.out]; exact ⟨rfl, h4, ((But2.of_below HB02.out).trans H3.out).trans h4b⟩)
        clear h4 h4b
        go_wp2
        go_ret
        exact HE.out
  · go_upto_region 2 with (fail)
    refine kt.forget (fun wz => Below W0.heap.size W0 wz ∧ wz.cell? ⟨w1.heap.size, 0, none⟩ = some (.int .i64 fn) ∧ wz.cell? ⟨w1.heap.size, 1, none⟩ = some (.bool half) ∧ wz.cell? ⟨w1.heap.size, 2, none⟩ = some (.bool imm) ∧ w1.heap.size < wz.heap.size) ?hXC ?_
    case hXC =>
      exact ⟨HB0.out.alloc HB0.out.size _, (cell_of_row _ _ _ _ _ _ (heap_alloc_new _ _)).trans rfl, (cell_of_row _ _ _ _ _ _ (heap_alloc_new _ _)).trans rfl, (cell_of_row _ _ _ _ _ _ (heap_alloc_new _ _)).trans rfl, by rw [World.size_alloc]; exact Nat.lt_succ_self _⟩
    rintro wz ⟨hbz, z0, z1, z2, zl⟩
    obtain ⟨⟨r1, r2, b0, b1, b2, b3, b4⟩, hmz, bz⟩ := HS.out _ hbz
    have pz := hmz.lt
    have HBz := bl.hid hbz
    have HMz := bl.hid hmz
    have HBd : Hid (∀ m, Below wz.heap.size wz (wz.drewN m)) := bl.hid (fun m => (Below.refl _ _).drewN' m)
    have HDo : Hid (∀ T, st.isU T → ∀ wx, Below wz.heap.size wz wx → Calls Tryz.prog 107 #[.int .i64 fn, .int .u64 x, .int .u64 T] wx fun e w2 => e = .returned (.tuple #[.int .u64 (wd.doV fn x T), .int .i64 (wd.doE fn)]) ∧ Below wz.heap.size wz w2) := bl.hid (fun T hT wx hb => (do_any fn x T wx HXu.out.1 HXu.out.2 hT.1 hT.2).mono (fun e w2 q => ⟨q.1, hb.trans (q.2.mono hb.size)⟩))
    have HHf : Hid (∀ T, st.isU T → ∀ wx, Below wz.heap.size wz wx → Calls Tryz.prog 108 #[.int .i64 fn, .int .u64 x, .int .u64 T] wx fun e w2 => e = .returned (.tuple #[.int .u64 (wd.halfV fn x T), .int .i64 (wd.halfE fn)]) ∧ Below wz.heap.size wz w2) := bl.hid (fun T hT wx hb => (half_any fn x T wx HXu.out.1 HXu.out.2 hT.1 hT.2).mono (fun e w2 q => ⟨q.1, hb.trans (q.2.mono hb.size)⟩))
    clear hbz hmz e0
    cases imm
    · cases half
      · have HTT : Hid (st.isU (y)) := bl.hid HYu.out
        have HC1 := bl.hid (HDo.out (y) HTT.out)
        have HVu : Hid (st.isU (wd.doV fn x (y))) := bl.hid (doV_bd fn x (y) HXu.out.1 HXu.out.2 HTT.out.1 HTT.out.2)
        have HRe := bl.hid (HEx.out (y) (fun h => by cases h) (fun _ => rfl))
        go_quiet (fail)
        go_wp2
        go_region_held3 (fun w' => w'.cell? ⟨P.p, k1, none⟩ = some (.int .u64 x) ∧ w'.cell? ⟨w.heap.size, 2, none⟩ = some (.int .i64 k1) ∧ w'.cell? ⟨w1.heap.size, 0, none⟩ = some (.int .i64 fn)) ((first | with_reducible assumption | go_keep))
          ((first
            | (go_at_call 107; with_reducible refine (HC1.out _ (HBd.out _)).mono ?_; rintro e w2 ⟨rfl, hb2⟩; obtain ⟨⟨q1, q2, c0, c1, c2, c3, c4⟩, hm2, lz⟩ := HS.out _ (HBz.out.trans (hb2.mono HBz.out.size)); have y0 := (hb2.cell (p := ⟨w1.heap.size, 0, none⟩) zl).trans z0; have HB2 := bl.hid hb2; have HM2 := bl.hid hm2; clear hb2 hm2)))
        have HB02 : Hid (Below w.heap.size w w2) := bl.hid ((HBl.out.trans (HBz.out.mono (by omega))).trans (HB2.out.mono (by omega)))
        have HPt := bl.hid (put_any w2 P code s rd (wd.doV fn x (y)) HM2.out HRd.out HVu.out)
        go_wp2_with fail
        refine HPt.out.mono ?_
        rintro e w3 ⟨rfl, h3, h3b⟩
        have HN := bl.hid (next_any w3 P code _ h3)
        have H3 := bl.hid h3b
        clear h3 h3b
        go_wp2_with fail
        refine HN.out.mono ?_
        rintro e w4 ⟨rfl, h4, h4b⟩
        have HE : Hid (TurnPost P code (.int .i64 0) R w (.returned (.int .i64 0)) w4) := bl.hid (by rw [HRe.out]; exact ⟨rfl, h4, ((But2.of_below HB02.out).trans H3.out).trans h4b⟩)
        clear h4 h4b
        go_wp2
        go_ret
        exact HE.out
      · have HTT : Hid (st.isU (y)) := bl.hid HYu.out
        have HC1 := bl.hid (HHf.out (y) HTT.out)
        have HVu : Hid (st.isU (wd.halfV fn x (y))) := bl.hid (halfV_bd fn x (y) HXu.out.1 HXu.out.2 HTT.out.1 HTT.out.2)
        have HRe := bl.hid (HEx.out (y) (fun h => by cases h) (fun _ => rfl))
        go_quiet (fail)
        go_wp2
        go_region_held3 (fun w' => w'.cell? ⟨P.p, k1, none⟩ = some (.int .u64 x) ∧ w'.cell? ⟨w.heap.size, 2, none⟩ = some (.int .i64 k1) ∧ w'.cell? ⟨w1.heap.size, 0, none⟩ = some (.int .i64 fn)) ((first | with_reducible assumption | go_keep))
          ((first
            | (go_at_call 108; with_reducible refine (HC1.out _ (HBd.out _)).mono ?_; rintro e w2 ⟨rfl, hb2⟩; obtain ⟨⟨q1, q2, c0, c1, c2, c3, c4⟩, hm2, lz⟩ := HS.out _ (HBz.out.trans (hb2.mono HBz.out.size)); have y0 := (hb2.cell (p := ⟨w1.heap.size, 0, none⟩) zl).trans z0; have HB2 := bl.hid hb2; have HM2 := bl.hid hm2; clear hb2 hm2)))
        have HB02 : Hid (Below w.heap.size w w2) := bl.hid ((HBl.out.trans (HBz.out.mono (by omega))).trans (HB2.out.mono (by omega)))
        have HPt := bl.hid (put_any w2 P code s rd (wd.halfV fn x (y)) HM2.out HRd.out HVu.out)
        go_wp2_with fail
        refine HPt.out.mono ?_
        rintro e w3 ⟨rfl, h3, h3b⟩
        have HN := bl.hid (next_any w3 P code _ h3)
        have H3 := bl.hid h3b
        clear h3 h3b
        go_wp2_with fail
        refine HN.out.mono ?_
        rintro e w4 ⟨rfl, h4, h4b⟩
        have HE : Hid (TurnPost P code (.int .i64 0) R w (.returned (.int .i64 0)) w4) := bl.hid (by rw [HRe.out]; exact ⟨rfl, h4, ((But2.of_below HB02.out).trans H3.out).trans h4b⟩)
        clear h4 h4b
        go_wp2
        go_ret
        exact HE.out
    · cases half
      · have HTT : Hid (st.isU (IntKind.u64.wrap im)) := bl.hid (by rw [wrap_u]; exact st.u64_isU _)
        have HC1 := bl.hid (HDo.out (IntKind.u64.wrap im) HTT.out)
        have HVu : Hid (st.isU (wd.doV fn x (IntKind.u64.wrap im))) := bl.hid (doV_bd fn x (IntKind.u64.wrap im) HXu.out.1 HXu.out.2 HTT.out.1 HTT.out.2)
        have HRe := bl.hid (HEx.out (IntKind.u64.wrap im) (fun _ => wrap_u im) (fun h => by cases h))
        go_quiet (fail)
        go_wp2
        go_region_held3 (fun w' => w'.cell? ⟨P.p, k1, none⟩ = some (.int .u64 x) ∧ w'.cell? ⟨w.heap.size, 2, none⟩ = some (.int .i64 k1) ∧ w'.cell? ⟨w1.heap.size, 0, none⟩ = some (.int .i64 fn)) ((first | with_reducible assumption | go_keep))
          ((first
            | (go_at_call 107; with_reducible refine (HC1.out _ (HBd.out _)).mono ?_; rintro e w2 ⟨rfl, hb2⟩; obtain ⟨⟨q1, q2, c0, c1, c2, c3, c4⟩, hm2, lz⟩ := HS.out _ (HBz.out.trans (hb2.mono HBz.out.size)); have y0 := (hb2.cell (p := ⟨w1.heap.size, 0, none⟩) zl).trans z0; have HB2 := bl.hid hb2; have HM2 := bl.hid hm2; clear hb2 hm2)))
        have HB02 : Hid (Below w.heap.size w w2) := bl.hid ((HBl.out.trans (HBz.out.mono (by omega))).trans (HB2.out.mono (by omega)))
        have HPt := bl.hid (put_any w2 P code s rd (wd.doV fn x (IntKind.u64.wrap im)) HM2.out HRd.out HVu.out)
        go_wp2_with fail
        refine HPt.out.mono ?_
        rintro e w3 ⟨rfl, h3, h3b⟩
        have HN := bl.hid (next_any w3 P code _ h3)
        have H3 := bl.hid h3b
        clear h3 h3b
        go_wp2_with fail
        refine HN.out.mono ?_
        rintro e w4 ⟨rfl, h4, h4b⟩
        have HE : Hid (TurnPost P code (.int .i64 0) R w (.returned (.int .i64 0)) w4) := bl.hid (by rw [HRe.out]; exact ⟨rfl, h4, ((But2.of_below HB02.out).trans H3.out).trans h4b⟩)
        clear h4 h4b
        go_wp2
        go_ret
        exact HE.out
      · have HTT : Hid (st.isU (IntKind.u64.wrap im)) := bl.hid (by rw [wrap_u]; exact st.u64_isU _)
        have HC1 := bl.hid (HHf.out (IntKind.u64.wrap im) HTT.out)
        have HVu : Hid (st.isU (wd.halfV fn x (IntKind.u64.wrap im))) := bl.hid (halfV_bd fn x (IntKind.u64.wrap im) HXu.out.1 HXu.out.2 HTT.out.1 HTT.out.2)
        have HRe := bl.hid (HEx.out (IntKind.u64.wrap im) (fun _ => wrap_u im) (fun h => by cases h))
        go_quiet (fail)
        go_wp2
        go_region_held3 (fun w' => w'.cell? ⟨P.p, k1, none⟩ = some (.int .u64 x) ∧ w'.cell? ⟨w.heap.size, 2, none⟩ = some (.int .i64 k1) ∧ w'.cell? ⟨w1.heap.size, 0, none⟩ = some (.int .i64 fn)) ((first | with_reducible assumption | go_keep))
          ((first
            | (go_at_call 108; with_reducible refine (HC1.out _ (HBd.out _)).mono ?_; rintro e w2 ⟨rfl, hb2⟩; obtain ⟨⟨q1, q2, c0, c1, c2, c3, c4⟩, hm2, lz⟩ := HS.out _ (HBz.out.trans (hb2.mono HBz.out.size)); have y0 := (hb2.cell (p := ⟨w1.heap.size, 0, none⟩) zl).trans z0; have HB2 := bl.hid hb2; have HM2 := bl.hid hm2; clear hb2 hm2)))
        have HB02 : Hid (Below w.heap.size w w2) := bl.hid ((HBl.out.trans (HBz.out.mono (by omega))).trans (HB2.out.mono (by omega)))
        have HPt := bl.hid (put_any w2 P code s rd (wd.halfV fn x (IntKind.u64.wrap im)) HM2.out HRd.out HVu.out)
        go_wp2_with fail
        refine HPt.out.mono ?_
        rintro e w3 ⟨rfl, h3, h3b⟩
        have HN := bl.hid (next_any w3 P code _ h3)
        have H3 := bl.hid h3b
        clear h3 h3b
        go_wp2_with fail
        refine HN.out.mono ?_
        rintro e w4 ⟨rfl, h4, h4b⟩
        have HE : Hid (TurnPost P code (.int .i64 0) R w (.returned (.int .i64 0)) w4) := bl.hid (by rw [HRe.out]; exact ⟨rfl, h4, ((But2.of_below HB02.out).trans H3.out).trans h4b⟩)
        clear h4 h4b
        go_wp2
        go_ret
        exact HE.out
  · go_upto_region 2 with (fail)
    refine kt.forget (fun wz => Below W0.heap.size W0 wz ∧ wz.cell? ⟨w.heap.size + 1, 0, none⟩ = some (.int .i64 fn) ∧ wz.cell? ⟨w.heap.size + 1, 1, none⟩ = some (.bool half) ∧ wz.cell? ⟨w.heap.size + 1, 2, none⟩ = some (.bool imm) ∧ w.heap.size + 1 < wz.heap.size) ?hXB ?_
    case hXB =>
      have c0 := fun (u v t : Value) => set3 w1 (w.heap.size + 1) u v t _ _ _ hz0 hz1 hz2
      have hl1 : w.heap.size + 1 < w1.heap.size := block_lt_of_cell hz0
      exact ⟨((HB0.out.setCell (p := ⟨w.heap.size + 1, 0, none⟩) (by show W0.heap.size ≤ w.heap.size + 1; omega) _).setCell (p := ⟨w.heap.size + 1, 1, none⟩) (by show W0.heap.size ≤ w.heap.size + 1; omega) _).setCell (p := ⟨w.heap.size + 1, 2, none⟩) (by show W0.heap.size ≤ w.heap.size + 1; omega) _, (c0 _ _ _).1, (c0 _ _ _).2.1, (c0 _ _ _).2.2, by show w.heap.size + 1 < (((w1.setCell _ _).setCell _ _).setCell _ _).heap.size; simpa using hl1⟩
    rintro wz ⟨hbz, z0, z1, z2, zl⟩
    obtain ⟨⟨r1, r2, b0, b1, b2, b3, b4⟩, hmz, bz⟩ := HS.out _ hbz
    have pz := hmz.lt
    have HBz := bl.hid hbz
    have HMz := bl.hid hmz
    have HBd : Hid (∀ m, Below wz.heap.size wz (wz.drewN m)) := bl.hid (fun m => (Below.refl _ _).drewN' m)
    have HDo : Hid (∀ T, st.isU T → ∀ wx, Below wz.heap.size wz wx → Calls Tryz.prog 107 #[.int .i64 fn, .int .u64 x, .int .u64 T] wx fun e w2 => e = .returned (.tuple #[.int .u64 (wd.doV fn x T), .int .i64 (wd.doE fn)]) ∧ Below wz.heap.size wz w2) := bl.hid (fun T hT wx hb => (do_any fn x T wx HXu.out.1 HXu.out.2 hT.1 hT.2).mono (fun e w2 q => ⟨q.1, hb.trans (q.2.mono hb.size)⟩))
    have HHf : Hid (∀ T, st.isU T → ∀ wx, Below wz.heap.size wz wx → Calls Tryz.prog 108 #[.int .i64 fn, .int .u64 x, .int .u64 T] wx fun e w2 => e = .returned (.tuple #[.int .u64 (wd.halfV fn x T), .int .i64 (wd.halfE fn)]) ∧ Below wz.heap.size wz w2) := bl.hid (fun T hT wx hb => (half_any fn x T wx HXu.out.1 HXu.out.2 hT.1 hT.2).mono (fun e w2 q => ⟨q.1, hb.trans (q.2.mono hb.size)⟩))
    clear hbz hmz e0
    cases imm
    · cases half
      · have HTT : Hid (st.isU (y)) := bl.hid HYu.out
        have HC1 := bl.hid (HDo.out (y) HTT.out)
        have HVu : Hid (st.isU (wd.doV fn x (y))) := bl.hid (doV_bd fn x (y) HXu.out.1 HXu.out.2 HTT.out.1 HTT.out.2)
        have HRe := bl.hid (HEx.out (y) (fun h => by cases h) (fun _ => rfl))
        go_quiet (fail)
        go_wp2
        go_region_held3 (fun w' => w'.cell? ⟨P.p, k1, none⟩ = some (.int .u64 x) ∧ w'.cell? ⟨w.heap.size, 2, none⟩ = some (.int .i64 k1) ∧ w'.cell? ⟨w.heap.size + 1, 0, none⟩ = some (.int .i64 fn)) ((first | with_reducible assumption | go_keep))
          ((first
            | (go_at_call 107; with_reducible refine (HC1.out _ (HBd.out _)).mono ?_; rintro e w2 ⟨rfl, hb2⟩; obtain ⟨⟨q1, q2, c0, c1, c2, c3, c4⟩, hm2, lz⟩ := HS.out _ (HBz.out.trans (hb2.mono HBz.out.size)); have y0 := (hb2.cell (p := ⟨w.heap.size + 1, 0, none⟩) zl).trans z0; have HB2 := bl.hid hb2; have HM2 := bl.hid hm2; clear hb2 hm2)))
        have HB02 : Hid (Below w.heap.size w w2) := bl.hid ((HBl.out.trans (HBz.out.mono (by omega))).trans (HB2.out.mono (by omega)))
        have HPt := bl.hid (put_any w2 P code s rd (wd.doV fn x (y)) HM2.out HRd.out HVu.out)
        go_wp2_with fail
        refine HPt.out.mono ?_
        rintro e w3 ⟨rfl, h3, h3b⟩
        have HN := bl.hid (next_any w3 P code _ h3)
        have H3 := bl.hid h3b
        clear h3 h3b
        go_wp2_with fail
        refine HN.out.mono ?_
        rintro e w4 ⟨rfl, h4, h4b⟩
        have HE : Hid (TurnPost P code (.int .i64 0) R w (.returned (.int .i64 0)) w4) := bl.hid (by rw [HRe.out]; exact ⟨rfl, h4, ((But2.of_below HB02.out).trans H3.out).trans h4b⟩)
        clear h4 h4b
        go_wp2
        go_ret
        exact HE.out
      · have HTT : Hid (st.isU (y)) := bl.hid HYu.out
        have HC1 := bl.hid (HHf.out (y) HTT.out)
        have HVu : Hid (st.isU (wd.halfV fn x (y))) := bl.hid (halfV_bd fn x (y) HXu.out.1 HXu.out.2 HTT.out.1 HTT.out.2)
        have HRe := bl.hid (HEx.out (y) (fun h => by cases h) (fun _ => rfl))
        go_quiet (fail)
        go_wp2
        go_region_held3 (fun w' => w'.cell? ⟨P.p, k1, none⟩ = some (.int .u64 x) ∧ w'.cell? ⟨w.heap.size, 2, none⟩ = some (.int .i64 k1) ∧ w'.cell? ⟨w.heap.size + 1, 0, none⟩ = some (.int .i64 fn)) ((first | with_reducible assumption | go_keep))
          ((first
            | (go_at_call 108; with_reducible refine (HC1.out _ (HBd.out _)).mono ?_; rintro e w2 ⟨rfl, hb2⟩; obtain ⟨⟨q1, q2, c0, c1, c2, c3, c4⟩, hm2, lz⟩ := HS.out _ (HBz.out.trans (hb2.mono HBz.out.size)); have y0 := (hb2.cell (p := ⟨w.heap.size + 1, 0, none⟩) zl).trans z0; have HB2 := bl.hid hb2; have HM2 := bl.hid hm2; clear hb2 hm2)))
        have HB02 : Hid (Below w.heap.size w w2) := bl.hid ((HBl.out.trans (HBz.out.mono (by omega))).trans (HB2.out.mono (by omega)))
        have HPt := bl.hid (put_any w2 P code s rd (wd.halfV fn x (y)) HM2.out HRd.out HVu.out)
        go_wp2_with fail
        refine HPt.out.mono ?_
        rintro e w3 ⟨rfl, h3, h3b⟩
        have HN := bl.hid (next_any w3 P code _ h3)
        have H3 := bl.hid h3b
        clear h3 h3b
        go_wp2_with fail
        refine HN.out.mono ?_
        rintro e w4 ⟨rfl, h4, h4b⟩
        have HE : Hid (TurnPost P code (.int .i64 0) R w (.returned (.int .i64 0)) w4) := bl.hid (by rw [HRe.out]; exact ⟨rfl, h4, ((But2.of_below HB02.out).trans H3.out).trans h4b⟩)
        clear h4 h4b
        go_wp2
        go_ret
        exact HE.out
    · cases half
      · have HTT : Hid (st.isU (IntKind.u64.wrap im)) := bl.hid (by rw [wrap_u]; exact st.u64_isU _)
        have HC1 := bl.hid (HDo.out (IntKind.u64.wrap im) HTT.out)
        have HVu : Hid (st.isU (wd.doV fn x (IntKind.u64.wrap im))) := bl.hid (doV_bd fn x (IntKind.u64.wrap im) HXu.out.1 HXu.out.2 HTT.out.1 HTT.out.2)
        have HRe := bl.hid (HEx.out (IntKind.u64.wrap im) (fun _ => wrap_u im) (fun h => by cases h))
        go_quiet (fail)
        go_wp2
        go_region_held3 (fun w' => w'.cell? ⟨P.p, k1, none⟩ = some (.int .u64 x) ∧ w'.cell? ⟨w.heap.size, 2, none⟩ = some (.int .i64 k1) ∧ w'.cell? ⟨w.heap.size + 1, 0, none⟩ = some (.int .i64 fn)) ((first | with_reducible assumption | go_keep))
          ((first
            | (go_at_call 107; with_reducible refine (HC1.out _ (HBd.out _)).mono ?_; rintro e w2 ⟨rfl, hb2⟩; obtain ⟨⟨q1, q2, c0, c1, c2, c3, c4⟩, hm2, lz⟩ := HS.out _ (HBz.out.trans (hb2.mono HBz.out.size)); have y0 := (hb2.cell (p := ⟨w.heap.size + 1, 0, none⟩) zl).trans z0; have HB2 := bl.hid hb2; have HM2 := bl.hid hm2; clear hb2 hm2)))
        have HB02 : Hid (Below w.heap.size w w2) := bl.hid ((HBl.out.trans (HBz.out.mono (by omega))).trans (HB2.out.mono (by omega)))
        have HPt := bl.hid (put_any w2 P code s rd (wd.doV fn x (IntKind.u64.wrap im)) HM2.out HRd.out HVu.out)
        go_wp2_with fail
        refine HPt.out.mono ?_
        rintro e w3 ⟨rfl, h3, h3b⟩
        have HN := bl.hid (next_any w3 P code _ h3)
        have H3 := bl.hid h3b
        clear h3 h3b
        go_wp2_with fail
        refine HN.out.mono ?_
        rintro e w4 ⟨rfl, h4, h4b⟩
        have HE : Hid (TurnPost P code (.int .i64 0) R w (.returned (.int .i64 0)) w4) := bl.hid (by rw [HRe.out]; exact ⟨rfl, h4, ((But2.of_below HB02.out).trans H3.out).trans h4b⟩)
        clear h4 h4b
        go_wp2
        go_ret
        exact HE.out
      · have HTT : Hid (st.isU (IntKind.u64.wrap im)) := bl.hid (by rw [wrap_u]; exact st.u64_isU _)
        have HC1 := bl.hid (HHf.out (IntKind.u64.wrap im) HTT.out)
        have HVu : Hid (st.isU (wd.halfV fn x (IntKind.u64.wrap im))) := bl.hid (halfV_bd fn x (IntKind.u64.wrap im) HXu.out.1 HXu.out.2 HTT.out.1 HTT.out.2)
        have HRe := bl.hid (HEx.out (IntKind.u64.wrap im) (fun _ => wrap_u im) (fun h => by cases h))
        go_quiet (fail)
        go_wp2
        go_region_held3 (fun w' => w'.cell? ⟨P.p, k1, none⟩ = some (.int .u64 x) ∧ w'.cell? ⟨w.heap.size, 2, none⟩ = some (.int .i64 k1) ∧ w'.cell? ⟨w.heap.size + 1, 0, none⟩ = some (.int .i64 fn)) ((first | with_reducible assumption | go_keep))
          ((first
            | (go_at_call 108; with_reducible refine (HC1.out _ (HBd.out _)).mono ?_; rintro e w2 ⟨rfl, hb2⟩; obtain ⟨⟨q1, q2, c0, c1, c2, c3, c4⟩, hm2, lz⟩ := HS.out _ (HBz.out.trans (hb2.mono HBz.out.size)); have y0 := (hb2.cell (p := ⟨w.heap.size + 1, 0, none⟩) zl).trans z0; have HB2 := bl.hid hb2; have HM2 := bl.hid hm2; clear hb2 hm2)))
        have HB02 : Hid (Below w.heap.size w w2) := bl.hid ((HBl.out.trans (HBz.out.mono (by omega))).trans (HB2.out.mono (by omega)))
        have HPt := bl.hid (put_any w2 P code s rd (wd.halfV fn x (IntKind.u64.wrap im)) HM2.out HRd.out HVu.out)
        go_wp2_with fail
        refine HPt.out.mono ?_
        rintro e w3 ⟨rfl, h3, h3b⟩
        have HN := bl.hid (next_any w3 P code _ h3)
        have H3 := bl.hid h3b
        clear h3 h3b
        go_wp2_with fail
        refine HN.out.mono ?_
        rintro e w4 ⟨rfl, h4, h4b⟩
        have HE : Hid (TurnPost P code (.int .i64 0) R w (.returned (.int .i64 0)) w4) := bl.hid (by rw [HRe.out]; exact ⟨rfl, h4, ((But2.of_below HB02.out).trans H3.out).trans h4b⟩)
        clear h4 h4b
        go_wp2
        go_ret
        exact HE.out
end Go.Proofs.YtjjkocklpcdbkaaGreat
