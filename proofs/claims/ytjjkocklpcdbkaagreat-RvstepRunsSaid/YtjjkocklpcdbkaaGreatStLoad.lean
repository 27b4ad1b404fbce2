/- load, walked. -/
import Derived.Test.YtjjkocklpcdbkaaGreatStExec
namespace Go.Proofs.YtjjkocklpcdbkaaGreat
open Go.RowKit
set_option linter.unusedVariables false
set_option maxRecDepth 100000
theorem kt.forget {P : Program} {c : Code} {a : Act} {w : World} {Q : Exit → Act → World → Prop} (X : World → Prop) (h : X w) (k : ∀ w', X w' → c.wp P Q a w') : c.wp P Q a w := k w h
theorem ldV_isU (l : List Int) (a n : Int) (h : wd.isBytes l) : st.isU (pl.ldV l a n) := by
  unfold pl.ldV
  split
  · rename_i hc
    rw [Bool.and_eq_true] at hc
    have hs := of_decide_eq_true hc.1
    refine leV_bd8 _ (fun b hb => h b (List.mem_of_mem_drop (List.mem_of_mem_take hb))) ?_
    rw [List.length_take]
    omega
  · exact ⟨by decide, by decide⟩
theorem set2 (w : World) (b : Nat) (u v x y : Value) (h0 : w.cell? ⟨b, 0, none⟩ = some x) (h1 : w.cell? ⟨b, 1, none⟩ = some y) :
    ((w.setCell ⟨b, 0, none⟩ u).setCell ⟨b, 1, none⟩ v).cell? ⟨b, 0, none⟩ = some u ∧ ((w.setCell ⟨b, 0, none⟩ u).setCell ⟨b, 1, none⟩ v).cell? ⟨b, 1, none⟩ = some v := by
  have ne : (⟨b, 1, none⟩ : Addr) ≠ ⟨b, 0, none⟩ := by intro e; injection e with e1 e2 e3; cases e2
  have ha : (w.setCell ⟨b, 0, none⟩ u).cell? ⟨b, 0, none⟩ = some u := World.cell?_setCell_same w _ _ h0
  have hb : (w.setCell ⟨b, 0, none⟩ u).cell? ⟨b, 1, none⟩ = some y := (World.cell?_setCell_other w _ _ _ ne.symm).trans h1
  exact ⟨(World.cell?_setCell_other _ _ _ _ ne).trans ha, World.cell?_setCell_same _ _ _ hb⟩
theorem szN_of (op : Int) (h : 11 ≤ op ∧ op ≤ 21) : st.szN op = 1 ∨ st.szN op = 2 ∨ st.szN op = 4 ∨ st.szN op = 8 := by
  unfold st.szN
  (repeat' split) <;> omega
set_option maxHeartbeats 3200000 in
theorem mload_any (w : World) (P : st.Pl) (code : Nat → st.Told) (s : st.S) (i : st.In) (h : IsMach w P code s) (hi : st.InOk i) (h5 : 11 ≤ i.op) (h10 : i.op ≤ 17) :
    Calls Tryz.prog 87 #[.pointer (some ⟨P.p, 0, none⟩), .agg i.cells] w (TurnPost P code (.int .i64 (st.exLoad i s).1) (st.exLoad i s).2 w) := by
  obtain ⟨op, rd, rs1, rs2, im⟩ := i
  show Calls Tryz.prog 87 #[.pointer (some ⟨P.p, 0, none⟩), .agg #[.int .i64 op, .int .i64 rd, .int .i64 rs1, .int .i64 rs2, .int .i64 im]] w _
  have c := h.mC
  have hl := h.lt
  have him := hi.im
  have hr1 := hi.rs1
  dsimp only at him hr1 h5 h10
  obtain ⟨k1, hk1⟩ : ∃ k1 : Nat, rs1 = k1 := ⟨rs1.toNat, by omega⟩
  subst hk1
  have hk1 : k1 < 32 := by omega
  have cr := h.regC k1 hk1
  have hwf : (Lit.int .i64 op).wf = true := WalkArith.wf_i64 (by omega)
  have HM := bl.hid (h.keep (kt.below_row (w := w) (.cells #[.int .i64 op, .int .i64 rd, .int .i64 k1, .int .i64 rs2, .int .i64 im] 71)))
  have HBl : Hid (Below w.heap.size w (w.alloc (.cells #[.int .i64 op, .int .i64 rd, .int .i64 k1, .int .i64 rs2, .int .i64 im] 71))) := bl.hid (kt.below_row _)
  have hru := h.ok.r k1 hk1
  unfold st.isU at hru
  obtain ⟨hx0', hx1'⟩ := hru
  have hrd := hi.rd
  dsimp only at hrd
  obtain ⟨x, hx⟩ : ∃ x, s.r k1 = x := ⟨_, rfl⟩
  rw [hx] at cr hx0' hx1'
  have HAt : Hid (∀ e : st.In, e.rs1 = (k1 : Int) → st.atOf e s = st.u64 (x + st.u64 e.im)) := bl.hid (fun e he => by unfold st.atOf st.S.rg; rw [he, Int.toNat_natCast, hx])
  have HRd := bl.hid hrd
  have HXr := bl.hid hx
  obtain ⟨W0, hW0⟩ : ∃ W0, w.alloc (.cells #[.int .i64 op, .int .i64 rd, .int .i64 k1, .int .i64 rs2, .int .i64 im] 71) = W0 := ⟨_, rfl⟩
  have hs0 : W0.heap.size = w.heap.size + 1 := by rw [← hW0]; exact World.size_alloc _ _
  have hx0 : W0.heap[w.heap.size]? = some (.cells #[.int .i64 op, .int .i64 rd, .int .i64 k1, .int .i64 rs2, .int .i64 im] 71 (0, 0)) := by rw [← hW0]; exact heap_alloc_new _ _
  rw [hW0] at HM HBl
  have HSz : Hid (∀ wx, Below W0.heap.size W0 wx → Calls Tryz.prog 103 #[] wx fun e w1 => ∃ b, e = .returned (.map (some b)) ∧ Below W0.heap.size W0 w1 ∧ Below wx.heap.size wx w1 ∧ b < w1.heap.size ∧ (Instr.lookup 147 (.map (some b)) (.int .i64 op) false).run Tryz.prog w1 = .ok (.agg #[.int .i64 (st.szN op), .bool (st.szS op)]) w1 ∧ (∀ o, (Instr.lookup 147 (.map (some b)) (.int .i64 op) false).run Tryz.prog (w1.alloc o) = .ok (.agg #[.int .i64 (st.szN op), .bool (st.szS op)]) (w1.alloc o)) ∧ w1.cell? ⟨w.heap.size, 0, none⟩ = some (.int .i64 op)) := bl.hid (fun wx hb => (sizes_any wx).mono (fun e w1 hp => by
    obtain ⟨b, he, hb1, hbl, hlk⟩ := hp.look
    have hb2 := hb.trans (hb1.mono hb.size)
    exact ⟨b, he, hb2, hb1, hbl, hlk op w1 hwf rfl, fun o => hlk op (w1.alloc o) hwf (Below.heap_alloc _ _ _ hbl), (cell_of_row _ _ _ _ _ _ ((hb2.block _ (by omega)).trans hx0)).trans rfl⟩))
  have e0 : W0.cell? ⟨w.heap.size, 0, none⟩ = some (.int .i64 op) := (cell_of_row _ _ _ _ _ _ hx0).trans rfl
  have HX0 := bl.hid hx0
  have hlt0 : w.heap.size < W0.heap.size := by omega
  have HZ : Hid (∀ w1, Below ((W0.alloc (.cells #[.int .i64 0, .bool false] 146)).drew).heap.size ((W0.alloc (.cells #[.int .i64 0, .bool false] 146)).drew) w1 → w1.cell? ⟨w.heap.size + 1, 0, none⟩ = some (.int .i64 0) ∧ w1.cell? ⟨w.heap.size + 1, 1, none⟩ = some (.bool false) ∧ w1.frozen? ⟨w.heap.size + 1, 0, none⟩ = false ∧ w1.frozen? ⟨w.heap.size + 1, 1, none⟩ = false) := bl.hid (fun w1 hb => by
    have := (hb.block W0.heap.size (by show _ < (W0.alloc (.cells #[.int .i64 0, .bool false] 146)).heap.size; rw [World.size_alloc]; exact Nat.lt_succ_self _)).trans (heap_alloc_new W0 (.cells #[.int .i64 0, .bool false] 146))
    rw [hs0] at this
    exact ⟨(cell_of_row _ _ _ _ _ _ this).trans rfl, (cell_of_row _ _ _ _ _ _ this).trans rfl, frozen_of_row _ _ _ _ _ this, frozen_of_row _ _ _ _ _ this⟩)
  have HLt : Hid (∀ w1, Below W0.heap.size W0 w1 → w.heap.size < w1.heap.size) := bl.hid (fun w1 hb => Nat.lt_of_lt_of_le hlt0 hb.size)
  have HD : Hid (Below W0.heap.size W0 W0.drew) := bl.hid (Below.refl _ _).drew
  have HDA : Hid (∀ o, Below W0.heap.size W0 (W0.alloc o).drew) := bl.hid (fun o => ((Below.refl _ _).alloc (Nat.le_refl _) o).drew)
  obtain ⟨AT, hAT⟩ : ∃ AT, IntKind.u64.wrap (x + IntKind.u64.wrap im) = AT := ⟨_, rfl⟩
  have hATu : st.isU AT := by rw [← hAT, wrap_u]; exact st.u64_isU _
  have hATe : st.atOf ⟨op, rd, k1, rs2, im⟩ s = AT := by rw [HAt.out _ rfl, ← hAT, wrap_u, wrap_u]
  obtain ⟨V, hV⟩ : ∃ V, pl.ldV s.l AT (st.szN op) = V := ⟨_, rfl⟩
  obtain ⟨E, hE⟩ : ∃ E, pl.ldE s.l AT (st.szN op) = E := ⟨_, rfl⟩
  have HLd : Hid (∀ w' wx, Below W0.heap.size W0 w' → Below w'.heap.size w' wx → Calls Tryz.prog 18 #[.pointer (some ⟨P.mp, 0, none⟩), .int .u64 AT, .int .i64 (st.szN op)] wx fun e w2 => e = .returned (.tuple #[.int .u64 V, .int .i64 E]) ∧ Below w'.heap.size w' w2) := bl.hid (fun w' wx hb hb' => by
    have := load_any P.mp P.g AT (st.szN op) s.l wx (HM.out.keep (hb.trans (hb'.mono hb.size))).mem hATu.1 hATu.2
    rw [hV, hE] at this
    exact this.mono (fun e w2 q => ⟨q.1, hb'.trans (q.2.mono hb'.size)⟩))
  have HEx : Hid (st.exLoad ⟨op, rd, k1, rs2, im⟩ s = if E ≠ 0 then (5, s) else (0, (s.put rd (if st.szS op then wd.sx V (st.szN op) else V)).nxt)) := bl.hid (by unfold st.exLoad; rw [hATe]; dsimp only; rw [hV, hE])
  have hVu : E = 0 → st.isU V := fun _ => by rw [← hV]; exact ldV_isU _ _ _ h.mem.bytes
  have HVu := bl.hid hVu
  obtain ⟨R, hR⟩ : ∃ R, st.exLoad ⟨op, rd, k1, rs2, im⟩ s = R := ⟨_, rfl⟩
  rw [hR]
  have HR := bl.hid (hR.symm.trans HEx.out)
  obtain ⟨zn, hzn⟩ : ∃ zn, st.szN op = zn := ⟨_, rfl⟩
  obtain ⟨zs, hzs⟩ : ∃ zs, st.szS op = zs := ⟨_, rfl⟩
  rw [hzn, hzs] at HSz HR
  rw [hzn] at HLd
  clear h hi hx hx0 hR hATe hV hE hVu HEx HAt
  go_enter Tryz.func87, Tryz.ntmps87
  go_wp2
  clear hW0
  go_region_held3 (fun w' => w'.cell? ⟨w.heap.size, 0, none⟩ = some (.int .i64 op)) ((first | with_reducible assumption | go_keep))
    ((first
      | (go_at_call 103; with_reducible refine (HSz.out _ HD.out).mono ?_; rintro e w1 ⟨b, rfl, hb0, hbx, hbl, l1, l2, x0⟩; have lt1 := HLt.out _ hb0; have HB0 := bl.hid hb0; clear hb0 hbx)
      | (go_at_call 103; with_reducible refine (HSz.out _ (HDA.out _)).mono ?_; rintro e w1 ⟨b, rfl, hb0, hbx, hbl, l1, l2, x0⟩; have lt1 := HLt.out _ hb0; obtain ⟨hz0, hz1, hf0, hf1⟩ := HZ.out _ hbx; have HB0 := bl.hid hb0; clear hb0 hbx)))
  · go_upto_region 2 with (fail)
    refine kt.forget (fun wz => Below W0.heap.size W0 wz ∧ wz.cell? ⟨w1.heap.size, 0, none⟩ = some (.int .i64 zn) ∧ wz.cell? ⟨w1.heap.size, 1, none⟩ = some (.bool zs) ∧ w1.heap.size < wz.heap.size) ?hXA ?_
    case hXA =>
      exact ⟨HB0.out.alloc HB0.out.size _, (cell_of_row _ _ _ _ _ _ (heap_alloc_new _ _)).trans rfl, (cell_of_row _ _ _ _ _ _ (heap_alloc_new _ _)).trans rfl, by rw [World.size_alloc]; exact Nat.lt_succ_self _⟩
    rintro wz ⟨hbz, z0, z1, zl⟩
    have hmz := HM.out.keep hbz
    have m0 := hmz.mC
    have m1 := hmz.regC k1 hk1
    have mp := hmz.lt
    have hx1 := (hbz.block w.heap.size (by omega)).trans HX0.out
    have b2 : wz.cell? ⟨w.heap.size, 2, none⟩ = some (.int .i64 k1) := (cell_of_row _ _ _ _ _ _ hx1).trans rfl
    have b4 : wz.cell? ⟨w.heap.size, 4, none⟩ = some (.int .i64 im) := (cell_of_row _ _ _ _ _ _ hx1).trans rfl
    have bz : w.heap.size < wz.heap.size := HLt.out _ hbz
    rw [HXr.out] at m1
    have HMz := bl.hid hmz
    have HXz := bl.hid hx1
    have HBz := bl.hid hbz
    have HBd : Hid (Below wz.heap.size wz wz.drew) := bl.hid (Below.refl _ _).drew
    have j0 : (0 : Int) ≤ (k1 : Int) := by omega
    have j1 : (k1 : Int) < 32 := by omega
    clear hbz hmz hx1
    go_region_held3 (fun w' => w'.cell? ⟨P.p, 33, none⟩ = some (.pointer (some ⟨P.mp, 0, none⟩)) ∧ w'.cell? ⟨P.p, k1, none⟩ = some (.int .u64 x) ∧ w'.cell? ⟨w.heap.size, 2, none⟩ = some (.int .i64 k1) ∧ w'.cell? ⟨w.heap.size, 4, none⟩ = some (.int .i64 im) ∧ w'.cell? ⟨w1.heap.size, 0, none⟩ = some (.int .i64 zn)) ((first | with_reducible assumption | go_keep))
      ((first
        | (go_at_call 18; with_reducible refine (HLd.out wz _ HBz.out HBd.out).mono ?_; rintro e w2 ⟨rfl, hb2⟩; have y0 := (hb2.cell (p := ⟨P.p, 33, none⟩) mp).trans m0; have y1 := (hb2.cell (p := ⟨P.p, k1, none⟩) mp).trans m1; have y2 := (hb2.cell (p := ⟨w.heap.size, 2, none⟩) bz).trans b2; have y4 := (hb2.cell (p := ⟨w.heap.size, 4, none⟩) bz).trans b4; have y5 := (hb2.cell (p := ⟨w1.heap.size, 0, none⟩) zl).trans z0; have y6 := (hb2.cell (p := ⟨w1.heap.size, 1, none⟩) zl).trans z1; have HB2 := bl.hid hb2; clear hb2)))
    have HM2 := bl.hid (HMz.out.keep HB2.out)
    have hx2 := (HB2.out.block w.heap.size bz).trans HXz.out
    have b1 : w2.cell? ⟨w.heap.size, 1, none⟩ = some (.int .i64 rd) := (cell_of_row _ _ _ _ _ _ hx2).trans rfl
    have HB02 : Hid (Below w.heap.size w w2) := bl.hid ((HBl.out.trans (HBz.out.mono (by omega))).trans (HB2.out.mono (by omega)))
    clear hx2
    by_cases hE0 : E = 0
    · subst hE0
      have hVu := HVu.out rfl
      cases zs
      · have HPt := bl.hid (put_any w2 P code s rd V HM2.out HRd.out hVu)
        clear hVu
        go_wp2_with fail
        refine HPt.out.mono ?_
        rintro e w3 ⟨rfl, h3, h3b⟩
        have HN := bl.hid (next_any w3 P code _ h3)
        have H3 := bl.hid h3b
        clear h3 h3b
        go_wp2_with fail
        refine HN.out.mono ?_
        rintro e w4 ⟨rfl, h4, h4b⟩
        have HE : Hid (TurnPost P code (.int .i64 R.1) R.2 w (.returned (.int .i64 0)) w4) := bl.hid (by rw [HR.out, if_neg (by simp)]; exact ⟨rfl, h4, ((But2.of_below HB02.out).trans H3.out).trans h4b⟩)
        clear h4 h4b
        go_wp2
        go_ret
        exact HE.out
      · have HSx := bl.hid (sext_any V zn w2 hVu.1 hVu.2)
        have hsu := sx_bd V zn hVu.1 hVu.2
        have HPt := bl.hid (put_any w2 P code s rd (wd.sx V zn) HM2.out HRd.out hsu)
        clear hVu hsu
        go_wp2_with fail
        refine HSx.out.mono ?_
        rintro e w2' ⟨rfl, rfl⟩
        go_wp2_with fail
        refine HPt.out.mono ?_
        rintro e w3 ⟨rfl, h3, h3b⟩
        have HN := bl.hid (next_any w3 P code _ h3)
        have H3 := bl.hid h3b
        clear h3 h3b
        go_wp2_with fail
        refine HN.out.mono ?_
        rintro e w4 ⟨rfl, h4, h4b⟩
        have HE : Hid (TurnPost P code (.int .i64 R.1) R.2 w (.returned (.int .i64 0)) w4) := bl.hid (by rw [HR.out, if_neg (by simp)]; exact ⟨rfl, h4, ((But2.of_below HB02.out).trans H3.out).trans h4b⟩)
        clear h4 h4b
        go_wp2
        go_ret
        exact HE.out
    · have hE1 : (E == 0) = false := by simpa using hE0
      have HE : Hid (TurnPost P code (.int .i64 R.1) R.2 w (.returned (.int .i64 5)) w2) := bl.hid (by rw [HR.out, if_pos hE0]; exact ⟨rfl, HM2.out, But2.of_below HB02.out⟩)
      clear hE0
      go_wp2
      go_ret
      exact HE.out
  · go_upto_region 2 with (fail)
    refine kt.forget (fun wz => Below W0.heap.size W0 wz ∧ wz.cell? ⟨w1.heap.size, 0, none⟩ = some (.int .i64 zn) ∧ wz.cell? ⟨w1.heap.size, 1, none⟩ = some (.bool zs) ∧ w1.heap.size < wz.heap.size) ?hXC ?_
    case hXC =>
      exact ⟨HB0.out.alloc HB0.out.size _, (cell_of_row _ _ _ _ _ _ (heap_alloc_new _ _)).trans rfl, (cell_of_row _ _ _ _ _ _ (heap_alloc_new _ _)).trans rfl, by rw [World.size_alloc]; exact Nat.lt_succ_self _⟩
    rintro wz ⟨hbz, z0, z1, zl⟩
    have hmz := HM.out.keep hbz
    have m0 := hmz.mC
    have m1 := hmz.regC k1 hk1
    have mp := hmz.lt
    have hx1 := (hbz.block w.heap.size (by omega)).trans HX0.out
    have b2 : wz.cell? ⟨w.heap.size, 2, none⟩ = some (.int .i64 k1) := (cell_of_row _ _ _ _ _ _ hx1).trans rfl
    have b4 : wz.cell? ⟨w.heap.size, 4, none⟩ = some (.int .i64 im) := (cell_of_row _ _ _ _ _ _ hx1).trans rfl
    have bz : w.heap.size < wz.heap.size := HLt.out _ hbz
    rw [HXr.out] at m1
    have HMz := bl.hid hmz
    have HXz := bl.hid hx1
    have HBz := bl.hid hbz
    have HBd : Hid (Below wz.heap.size wz wz.drew) := bl.hid (Below.refl _ _).drew
    have j0 : (0 : Int) ≤ (k1 : Int) := by omega
    have j1 : (k1 : Int) < 32 := by omega
    clear hbz hmz hx1
    go_region_held3 (fun w' => w'.cell? ⟨P.p, 33, none⟩ = some (.pointer (some ⟨P.mp, 0, none⟩)) ∧ w'.cell? ⟨P.p, k1, none⟩ = some (.int .u64 x) ∧ w'.cell? ⟨w.heap.size, 2, none⟩ = some (.int .i64 k1) ∧ w'.cell? ⟨w.heap.size, 4, none⟩ = some (.int .i64 im) ∧ w'.cell? ⟨w1.heap.size, 0, none⟩ = some (.int .i64 zn)) ((first | with_reducible assumption | go_keep))
      ((first
        | (go_at_call 18; with_reducible refine (HLd.out wz _ HBz.out HBd.out).mono ?_; rintro e w2 ⟨rfl, hb2⟩; have y0 := (hb2.cell (p := ⟨P.p, 33, none⟩) mp).trans m0; have y1 := (hb2.cell (p := ⟨P.p, k1, none⟩) mp).trans m1; have y2 := (hb2.cell (p := ⟨w.heap.size, 2, none⟩) bz).trans b2; have y4 := (hb2.cell (p := ⟨w.heap.size, 4, none⟩) bz).trans b4; have y5 := (hb2.cell (p := ⟨w1.heap.size, 0, none⟩) zl).trans z0; have y6 := (hb2.cell (p := ⟨w1.heap.size, 1, none⟩) zl).trans z1; have HB2 := bl.hid hb2; clear hb2)))
    have HM2 := bl.hid (HMz.out.keep HB2.out)
    have hx2 := (HB2.out.block w.heap.size bz).trans HXz.out
    have b1 : w2.cell? ⟨w.heap.size, 1, none⟩ = some (.int .i64 rd) := (cell_of_row _ _ _ _ _ _ hx2).trans rfl
    have HB02 : Hid (Below w.heap.size w w2) := bl.hid ((HBl.out.trans (HBz.out.mono (by omega))).trans (HB2.out.mono (by omega)))
    clear hx2
    by_cases hE0 : E = 0
    · subst hE0
      have hVu := HVu.out rfl
      cases zs
      · have HPt := bl.hid (put_any w2 P code s rd V HM2.out HRd.out hVu)
        clear hVu
        go_wp2_with fail
        refine HPt.out.mono ?_
        rintro e w3 ⟨rfl, h3, h3b⟩
        have HN := bl.hid (next_any w3 P code _ h3)
        have H3 := bl.hid h3b
        clear h3 h3b
        go_wp2_with fail
        refine HN.out.mono ?_
        rintro e w4 ⟨rfl, h4, h4b⟩
        have HE : Hid (TurnPost P code (.int .i64 R.1) R.2 w (.returned (.int .i64 0)) w4) := bl.hid (by rw [HR.out, if_neg (by simp)]; exact ⟨rfl, h4, ((But2.of_below HB02.out).trans H3.out).trans h4b⟩)
        clear h4 h4b
        go_wp2
        go_ret
        exact HE.out
      · have HSx := bl.hid (sext_any V zn w2 hVu.1 hVu.2)
        have hsu := sx_bd V zn hVu.1 hVu.2
        have HPt := bl.hid (put_any w2 P code s rd (wd.sx V zn) HM2.out HRd.out hsu)
        clear hVu hsu
        go_wp2_with fail
        refine HSx.out.mono ?_
        rintro e w2' ⟨rfl, rfl⟩
        go_wp2_with fail
        refine HPt.out.mono ?_
        rintro e w3 ⟨rfl, h3, h3b⟩
        have HN := bl.hid (next_any w3 P code _ h3)
        have H3 := bl.hid h3b
        clear h3 h3b
        go_wp2_with fail
        refine HN.out.mono ?_
        rintro e w4 ⟨rfl, h4, h4b⟩
        have HE : Hid (TurnPost P code (.int .i64 R.1) R.2 w (.returned (.int .i64 0)) w4) := bl.hid (by rw [HR.out, if_neg (by simp)]; exact ⟨rfl, h4, ((But2.of_below HB02.out).trans H3.out).trans h4b⟩)
        clear h4 h4b
        go_wp2
        go_ret
        exact HE.out
    · have hE1 : (E == 0) = false := by simpa using hE0
      have HE : Hid (TurnPost P code (.int .i64 R.1) R.2 w (.returned (.int .i64 5)) w2) := bl.hid (by rw [HR.out, if_pos hE0]; exact ⟨rfl, HM2.out, But2.of_below HB02.out⟩)
      clear hE0
      go_wp2
      go_ret
      exact HE.out
  · go_upto_region 2 with (fail)
    refine kt.forget (fun wz => Below W0.heap.size W0 wz ∧ wz.cell? ⟨w.heap.size + 1, 0, none⟩ = some (.int .i64 zn) ∧ wz.cell? ⟨w.heap.size + 1, 1, none⟩ = some (.bool zs) ∧ w.heap.size + 1 < wz.heap.size) ?hXB ?_
    case hXB =>
      have c0 := fun (u v : Value) => set2 w1 (w.heap.size + 1) u v _ _ hz0 hz1
      have hl1 : w.heap.size + 1 < w1.heap.size := block_lt_of_cell hz0
      exact ⟨(HB0.out.setCell (p := ⟨w.heap.size + 1, 0, none⟩) (by show W0.heap.size ≤ w.heap.size + 1; omega) _).setCell (p := ⟨w.heap.size + 1, 1, none⟩) (by show W0.heap.size ≤ w.heap.size + 1; omega) _, (c0 _ _).1, (c0 _ _).2, by show w.heap.size + 1 < ((w1.setCell _ _).setCell _ _).heap.size; simpa using hl1⟩
    rintro wz ⟨hbz, z0, z1, zl⟩
    have hmz := HM.out.keep hbz
    have m0 := hmz.mC
    have m1 := hmz.regC k1 hk1
    have mp := hmz.lt
    have hx1 := (hbz.block w.heap.size (by omega)).trans HX0.out
    have b2 : wz.cell? ⟨w.heap.size, 2, none⟩ = some (.int .i64 k1) := (cell_of_row _ _ _ _ _ _ hx1).trans rfl
    have b4 : wz.cell? ⟨w.heap.size, 4, none⟩ = some (.int .i64 im) := (cell_of_row _ _ _ _ _ _ hx1).trans rfl
    have bz : w.heap.size < wz.heap.size := HLt.out _ hbz
    rw [HXr.out] at m1
    have HMz := bl.hid hmz
    have HXz := bl.hid hx1
    have HBz := bl.hid hbz
    have HBd : Hid (Below wz.heap.size wz wz.drew) := bl.hid (Below.refl _ _).drew
    have j0 : (0 : Int) ≤ (k1 : Int) := by omega
    have j1 : (k1 : Int) < 32 := by omega
    clear hbz hmz hx1
    go_region_held3 (fun w' => w'.cell? ⟨P.p, 33, none⟩ = some (.pointer (some ⟨P.mp, 0, none⟩)) ∧ w'.cell? ⟨P.p, k1, none⟩ = some (.int .u64 x) ∧ w'.cell? ⟨w.heap.size, 2, none⟩ = some (.int .i64 k1) ∧ w'.cell? ⟨w.heap.size, 4, none⟩ = some (.int .i64 im) ∧ w'.cell? ⟨w.heap.size + 1, 0, none⟩ = some (.int .i64 zn)) ((first | with_reducible assumption | go_keep))
      ((first
        | (go_at_call 18; with_reducible refine (HLd.out wz _ HBz.out HBd.out).mono ?_; rintro e w2 ⟨rfl, hb2⟩; have y0 := (hb2.cell (p := ⟨P.p, 33, none⟩) mp).trans m0; have y1 := (hb2.cell (p := ⟨P.p, k1, none⟩) mp).trans m1; have y2 := (hb2.cell (p := ⟨w.heap.size, 2, none⟩) bz).trans b2; have y4 := (hb2.cell (p := ⟨w.heap.size, 4, none⟩) bz).trans b4; have y5 := (hb2.cell (p := ⟨w.heap.size + 1, 0, none⟩) zl).trans z0; have y6 := (hb2.cell (p := ⟨w.heap.size + 1, 1, none⟩) zl).trans z1; have HB2 := bl.hid hb2; clear hb2)))
    have HM2 := bl.hid (HMz.out.keep HB2.out)
    have hx2 := (HB2.out.block w.heap.size bz).trans HXz.out
    have b1 : w2.cell? ⟨w.heap.size, 1, none⟩ = some (.int .i64 rd) := (cell_of_row _ _ _ _ _ _ hx2).trans rfl
    have HB02 : Hid (Below w.heap.size w w2) := bl.hid ((HBl.out.trans (HBz.out.mono (by omega))).trans (HB2.out.mono (by omega)))
    clear hx2
    by_cases hE0 : E = 0
    · subst hE0
      have hVu := HVu.out rfl
      cases zs
      · have HPt := bl.hid (put_any w2 P code s rd V HM2.out HRd.out hVu)
        clear hVu
        go_wp2_with fail
        refine HPt.out.mono ?_
        rintro e w3 ⟨rfl, h3, h3b⟩
        have HN := bl.hid (next_any w3 P code _ h3)
        have H3 := bl.hid h3b
        clear h3 h3b
        go_wp2_with fail
        refine HN.out.mono ?_
        rintro e w4 ⟨rfl, h4, h4b⟩
        have HE : Hid (TurnPost P code (.int .i64 R.1) R.2 w (.returned (.int .i64 0)) w4) := bl.hid (by rw [HR.out, if_neg (by simp)]; exact ⟨rfl, h4, ((But2.of_below HB02.out).trans H3.out).trans h4b⟩)
        clear h4 h4b
        go_wp2
        go_ret
        exact HE.out
      · have HSx := bl.hid (sext_any V zn w2 hVu.1 hVu.2)
        have hsu := sx_bd V zn hVu.1 hVu.2
        have HPt := bl.hid (put_any w2 P code s rd (wd.sx V zn) HM2.out HRd.out hsu)
        clear hVu hsu
        go_wp2_with fail
        refine HSx.out.mono ?_
        rintro e w2' ⟨rfl, rfl⟩
        go_wp2_with fail
        refine HPt.out.mono ?_
        rintro e w3 ⟨rfl, h3, h3b⟩
        have HN := bl.hid (next_any w3 P code _ h3)
        have H3 := bl.hid h3b
        clear h3 h3b
        go_wp2_with fail
        refine HN.out.mono ?_
        rintro e w4 ⟨rfl, h4, h4b⟩
        have HE : Hid (TurnPost P code (.int .i64 R.1) R.2 w (.returned (.int .i64 0)) w4) := bl.hid (by rw [HR.out, if_neg (by simp)]; exact ⟨rfl, h4, ((But2.of_below HB02.out).trans H3.out).trans h4b⟩)
        clear h4 h4b
        go_wp2
        go_ret
        exact HE.out
    · have hE1 : (E == 0) = false := by simpa using hE0
      have HE : Hid (TurnPost P code (.int .i64 R.1) R.2 w (.returned (.int .i64 5)) w2) := bl.hid (by rw [HR.out, if_pos hE0]; exact ⟨rfl, HM2.out, But2.of_below HB02.out⟩)
      clear hE0
      go_wp2
      go_ret
      exact HE.out
end Go.Proofs.YtjjkocklpcdbkaaGreat
