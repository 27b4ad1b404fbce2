/- store, walked. -/
import Derived.Test.YtjjkocklpcdbkaaGreatStLoad
namespace Go.Proofs.YtjjkocklpcdbkaaGreat
open Go.RowKit
set_option linter.unusedVariables false
set_option maxRecDepth 100000
theorem size_n (n : Int) (b : Bool) (w : World) : (Instr.field 146 (.agg #[.int .i64 n, .bool b]) 0).run Tryz.prog w = .ok (.int .i64 n) w := by kernel_rfl
set_option maxHeartbeats 3200000 in
theorem mstore_any (w : World) (P : st.Pl) (code : Nat → st.Told) (s : st.S) (i : st.In) (h : IsMach w P code s) (hi : st.InOk i) (h5 : 18 ≤ i.op) (h10 : i.op ≤ 21) :
    Calls Tryz.prog 88 #[.pointer (some ⟨P.p, 0, none⟩), .agg i.cells] w (TurnPost P code (.int .i64 (st.exStore i s).1) (st.exStore i s).2 w) := by
  obtain ⟨op, rd, rs1, rs2, im⟩ := i
  show Calls Tryz.prog 88 #[.pointer (some ⟨P.p, 0, none⟩), .agg #[.int .i64 op, .int .i64 rd, .int .i64 rs1, .int .i64 rs2, .int .i64 im]] w _
  have hl := h.lt
  have him := hi.im
  have hr1 := hi.rs1
  have hr2 := hi.rs2
  dsimp only at him hr1 hr2 h5 h10
  obtain ⟨k1, hk1⟩ : ∃ k1 : Nat, rs1 = k1 := ⟨rs1.toNat, by omega⟩
  obtain ⟨k2, hk2⟩ : ∃ k2 : Nat, rs2 = k2 := ⟨rs2.toNat, by omega⟩
  subst hk1 hk2
  have hk1 : k1 < 32 := by omega
  have hk2 : k2 < 32 := by omega
  have hwf : (Lit.int .i64 op).wf = true := WalkArith.wf_i64 (by omega)
  have HM := bl.hid (h.keep (kt.below_row (w := w) (.cells #[.int .i64 op, .int .i64 rd, .int .i64 k1, .int .i64 k2, .int .i64 im] 71)))
  have HBl : Hid (Below w.heap.size w (w.alloc (.cells #[.int .i64 op, .int .i64 rd, .int .i64 k1, .int .i64 k2, .int .i64 im] 71))) := bl.hid (kt.below_row _)
  have hru := h.ok.r k1 hk1
  have hrv := h.ok.r k2 hk2
  obtain ⟨x, hx⟩ : ∃ x, s.r k1 = x := ⟨_, rfl⟩
  obtain ⟨y, hy⟩ : ∃ y, s.r k2 = y := ⟨_, rfl⟩
  rw [hx] at hru
  rw [hy] at hrv
  have HYu := bl.hid hrv
  unfold st.isU at hru hrv
  obtain ⟨hx0', hx1'⟩ := hru
  obtain ⟨hy0', hy1'⟩ := hrv
  obtain ⟨W0, hW0⟩ : ∃ W0, w.alloc (.cells #[.int .i64 op, .int .i64 rd, .int .i64 k1, .int .i64 k2, .int .i64 im] 71) = W0 := ⟨_, rfl⟩
  have hs0 : W0.heap.size = w.heap.size + 1 := by rw [← hW0]; exact World.size_alloc _ _
  have hx0 : W0.heap[w.heap.size]? = some (.cells #[.int .i64 op, .int .i64 rd, .int .i64 k1, .int .i64 k2, .int .i64 im] 71 (0, 0)) := by rw [← hW0]; exact heap_alloc_new _ _
  rw [hW0] at HM HBl
  have HS : Hid (∀ w1, Below W0.heap.size W0 w1 → w1.cell? ⟨P.p, 33, none⟩ = some (.pointer (some ⟨P.mp, 0, none⟩)) ∧ w1.cell? ⟨P.p, k1, none⟩ = some (.int .u64 x) ∧ w1.cell? ⟨P.p, k2, none⟩ = some (.int .u64 y) ∧ w1.cell? ⟨w.heap.size, 0, none⟩ = some (.int .i64 op) ∧ w1.cell? ⟨w.heap.size, 2, none⟩ = some (.int .i64 k1) ∧ w1.cell? ⟨w.heap.size, 3, none⟩ = some (.int .i64 k2) ∧ w1.cell? ⟨w.heap.size, 4, none⟩ = some (.int .i64 im)) := bl.hid (fun w1 hb => by
    have hm := HM.out.keep hb
    have hr := (hb.block w.heap.size (by omega)).trans hx0
    refine ⟨hm.mC, ?_, ?_, (cell_of_row _ _ _ _ _ _ hr).trans rfl, (cell_of_row _ _ _ _ _ _ hr).trans rfl, (cell_of_row _ _ _ _ _ _ hr).trans rfl, (cell_of_row _ _ _ _ _ _ hr).trans rfl⟩
    · rw [← hx]; exact hm.regC k1 hk1
    · rw [← hy]; exact hm.regC k2 hk2)
  have HSz : Hid (∀ wx, Below W0.heap.size W0 wx → Calls Tryz.prog 103 #[] wx fun e w1 => ∃ b, e = .returned (.map (some b)) ∧ Below W0.heap.size W0 w1 ∧ (Instr.lookup 147 (.map (some b)) (.int .i64 op) false).run Tryz.prog w1 = .ok (.agg #[.int .i64 (st.szN op), .bool (st.szS op)]) w1) := bl.hid (fun wx hb => (sizes_any wx).mono (fun e w1 hp => by
    obtain ⟨b, he, hb1, hbl, hlk⟩ := hp.look
    exact ⟨b, he, hb.trans (hb1.mono hb.size), hlk op w1 hwf rfl⟩))
  obtain ⟨AT, hAT⟩ : ∃ AT, IntKind.u64.wrap (x + IntKind.u64.wrap im) = AT := ⟨_, rfl⟩
  have hATu : st.isU AT := by rw [← hAT, wrap_u]; exact st.u64_isU _
  have hATe : st.atOf ⟨op, rd, k1, k2, im⟩ s = AT := by
    unfold st.atOf st.S.rg
    dsimp only
    rw [Int.toNat_natCast, hx, ← hAT, wrap_u, wrap_u]
  obtain ⟨E, hE⟩ : ∃ E, pl.ldE s.l AT (st.szN op) = E := ⟨_, rfl⟩
  obtain ⟨l2, hl2⟩ : ∃ l2, pl.stL s.l AT (st.szN op) y = l2 := ⟨_, rfl⟩
  have HSt : Hid (∀ w1, Below W0.heap.size W0 w1 → Calls Tryz.prog 105 #[.pointer (some ⟨P.mp, 0, none⟩), .int .u64 AT, .int .i64 (st.szN op), .int .u64 y] w1 fun e w2 => e = .returned (.int .i64 E) ∧ IsMach w2 P code { s with l := l2 } ∧ But2 P.p P.g w w2 ∧ w2.cell? ⟨P.p, 33, none⟩ = some (.pointer (some ⟨P.mp, 0, none⟩)) ∧ w2.cell? ⟨P.p, k1, none⟩ = some (.int .u64 x) ∧ w2.cell? ⟨P.p, k2, none⟩ = some (.int .u64 y) ∧ w2.cell? ⟨w.heap.size, 0, none⟩ = some (.int .i64 op) ∧ w2.cell? ⟨w.heap.size, 2, none⟩ = some (.int .i64 k1) ∧ w2.cell? ⟨w.heap.size, 3, none⟩ = some (.int .i64 k2) ∧ w2.cell? ⟨w.heap.size, 4, none⟩ = some (.int .i64 im)) := bl.hid (fun w1 hb => by
    have hm := HM.out.keep hb
    have := store_any P.mp P.g AT (st.szN op) y s.l w1 hm.mem hATu.1 hATu.2 HYu.out.1 HYu.out.2
    unfold StorePost at this
    rw [hE, hl2] at this
    refine this.mono (fun e w2 q => ?_)
    obtain ⟨q1, q2, q3⟩ := q
    have hm2 := hm.store q2 q3
    have hg := h.mem.lt.2
    have hbw := hb.size
    have hr := (q2.block w.heap.size (by omega) (by intro e; injection e with e; omega)).trans ((hb.block w.heap.size (by omega)).trans hx0)
    refine ⟨q1, hm2, ((But2.of_below HBl.out).trans (But2.of_below (hb))).trans (But2.of_grown q2), hm2.mC, ?_, ?_, (cell_of_row _ _ _ _ _ _ hr).trans rfl, (cell_of_row _ _ _ _ _ _ hr).trans rfl, (cell_of_row _ _ _ _ _ _ hr).trans rfl, (cell_of_row _ _ _ _ _ _ hr).trans rfl⟩
    · rw [← hx]; exact hm2.regC k1 hk1
    · rw [← hy]; exact hm2.regC k2 hk2)
  have HEx : Hid (st.exStore ⟨op, rd, k1, k2, im⟩ s = if E ≠ 0 then (5, s) else (0, ({ s with l := l2 } : st.S).nxt)) := bl.hid (by
    unfold st.exStore
    rw [hATe]
    dsimp only
    have hrg : s.rg (k2 : Int) = y := by unfold st.S.rg; rw [Int.toNat_natCast, hy]
    rw [hE, hrg, hl2])
  have HNo : Hid (E ≠ 0 → l2 = s.l) := bl.hid (fun hne => by
    rw [← hl2]
    unfold pl.stL
    rw [if_neg]
    intro hc
    rw [Bool.and_eq_true] at hc
    apply hne
    rw [← hE]
    unfold pl.ldE
    rw [if_pos hc.1, if_pos hc.2])
  obtain ⟨R, hR⟩ : ∃ R, st.exStore ⟨op, rd, k1, k2, im⟩ s = R := ⟨_, rfl⟩
  rw [hR]
  have HR := bl.hid (hR.symm.trans HEx.out)
  obtain ⟨zn, hzn⟩ : ∃ zn, st.szN op = zn := ⟨_, rfl⟩
  obtain ⟨zs, hzs⟩ : ∃ zs, st.szS op = zs := ⟨_, rfl⟩
  rw [hzn, hzs] at HSz
  rw [hzn] at HSt
  have HD : Hid (Below W0.heap.size W0 W0.drew) := bl.hid (Below.refl _ _).drew
  obtain ⟨d0, d1, d2, d3, d4, d5, d6⟩ := HS.out W0 (Below.refl _ _)
  have j0 : (0 : Int) ≤ (k1 : Int) := by omega
  have j1 : (k1 : Int) < 32 := by omega
  have j2 : (0 : Int) ≤ (k2 : Int) := by omega
  have j3 : (k2 : Int) < 32 := by omega
  have hfd := fun w => size_n zn zs w
  clear h hi hx hy hx0 hR hATe hE hl2 HEx hzn hzs hr1 hr2
  go_enter Tryz.func88, Tryz.ntmps88
  go_wp2
  clear hW0
  go_region_held3 (fun w' => w'.cell? ⟨P.p, 33, none⟩ = some (.pointer (some ⟨P.mp, 0, none⟩)) ∧ w'.cell? ⟨P.p, k1, none⟩ = some (.int .u64 x) ∧ w'.cell? ⟨P.p, k2, none⟩ = some (.int .u64 y) ∧ w'.cell? ⟨w.heap.size, 0, none⟩ = some (.int .i64 op) ∧ w'.cell? ⟨w.heap.size, 2, none⟩ = some (.int .i64 k1) ∧ w'.cell? ⟨w.heap.size, 3, none⟩ = some (.int .i64 k2) ∧ w'.cell? ⟨w.heap.size, 4, none⟩ = some (.int .i64 im)) ((first | with_reducible assumption | go_keep))
    ((first
      | (go_at_call 103; with_reducible refine (HSz.out _ HD.out).mono ?_; rintro e w1 ⟨b, rfl, hb0, l1⟩; obtain ⟨e0, e1, e2, e3, e4, e5, e6⟩ := HS.out _ hb0; have HB0 := bl.hid hb0; clear hb0)
      | (go_at_call 105; with_reducible refine (HSt.out _ HB0.out).mono ?_; rintro e w2 ⟨rfl, hm2, hbt, f0, f1, f2, f3, f4, f5, f6⟩; have HM2 := bl.hid hm2; have HB2 := bl.hid hbt; clear hm2 hbt)))
  by_cases hE0 : E = 0
  · subst hE0
    have HN := bl.hid (next_any w2 P code _ HM2.out)
    clear f0 f1 f2 f3 f4 f5 f6 e0 e1 e2 e3 e4 e5 e6 d0 d1 d2 d3 d4 d5 d6
    go_wp2_with fail
    refine HN.out.mono ?_
    rintro e w3 ⟨rfl, h3, h3b⟩
    have HE : Hid (TurnPost P code (.int .i64 R.1) R.2 w (.returned (.int .i64 0)) w3) := bl.hid (by rw [HR.out, if_neg (by simp)]; exact ⟨rfl, h3, HB2.out.trans h3b⟩)
    clear h3 h3b
    go_wp2
    go_ret
    exact HE.out
  · have hE1 : (E == 0) = false := by simpa using hE0
    have HE : Hid (TurnPost P code (.int .i64 R.1) R.2 w (.returned (.int .i64 5)) w2) := bl.hid (by
      rw [HR.out, if_pos hE0]
      have := HM2.out
      rw [HNo.out hE0] at this
      exact ⟨rfl, this, HB2.out⟩)
    clear hE0
    go_wp2
    go_ret
    exact HE.out
end Go.Proofs.YtjjkocklpcdbkaaGreat
