/- The reference's memory (a load, a store), walked. -/
import Derived.Test.YtjjkocklpcdbkaaGreatRsFetch
namespace Go.Proofs.YtjjkocklpcdbkaaGreat
open Go.RowKit
set_option linter.unusedVariables false
set_option maxRecDepth 100000
/-- the next place, set by hand -/
theorem IsRM.nxt {w : World} {P : st.Pl} {f : Nat → Int} {s : st.S} (h : IsRM w P f s) : ∀ v, v = st.u64 (s.pc + 4) → IsRM (w.setCell ⟨P.p, 32, none⟩ (.int .u64 v)) P f s.nxt ∧ But2 P.p P.g w (w.setCell ⟨P.p, 32, none⟩ (.int .u64 v)) := fun v hv => by
  subst hv
  exact h.goes _ (st.u64_isU _)
set_option maxHeartbeats 3200000 in
theorem rstore_ex (w : World) (P : st.Pl) (f : Nat → Int) (s : st.S) (i : st.In) (h : IsRM w P f s) (hi : st.InOk i) (h5 : 18 ≤ i.op) (h10 : i.op ≤ 21) :
    Calls Tryz.prog 34 #[.pointer (some ⟨P.p, 0, none⟩), .agg i.cells] w (RTurn P f (.int .i64 (st.exStore i s).1) (st.exStore i s).2 w) := by
  obtain ⟨op, rd, rs1, rs2, im⟩ := i
  show Calls Tryz.prog 34 #[.pointer (some ⟨P.p, 0, none⟩), .agg #[.int .i64 op, .int .i64 rd, .int .i64 rs1, .int .i64 rs2, .int .i64 im]] w _
  have hl := h.lt
  have him := hi.im
  have hr1 := hi.rs1
  have hr2 := hi.rs2
  dsimp only at him hr1 hr2 h5 h10
  obtain ⟨k1, hk1⟩ : ∃ k1 : Nat, rs1 = k1 := ⟨rs1.toNat, by omega⟩
  obtain ⟨k2, hk2⟩ : ∃ k2 : Nat, rs2 = k2 := ⟨rs2.toNat, by omega⟩
  subst hk1 hk2
  have hk1 : k1 < 32 := by omega
  have hk2 : k2 < 32 := by omega
  have HM := bl.hid (h.keep (kt.below_row (w := w) (.cells #[.int .i64 op, .int .i64 rd, .int .i64 k1, .int .i64 k2, .int .i64 im] 71)))
  have HBl : Hid (Below w.heap.size w (w.alloc (.cells #[.int .i64 op, .int .i64 rd, .int .i64 k1, .int .i64 k2, .int .i64 im] 71))) := bl.hid (kt.below_row _)
  have hru := h.ok.r k1 hk1
  have hrv := h.ok.r k2 hk2
  obtain ⟨x, hx⟩ : ∃ x, s.r k1 = x := ⟨_, rfl⟩
  obtain ⟨y, hy⟩ : ∃ y, s.r k2 = y := ⟨_, rfl⟩
  rw [hx] at hru
  rw [hy] at hrv
  have HYu := bl.hid hrv
  unfold st.isU at hru hrv
  obtain ⟨hx0', hx1'⟩ := hru
  obtain ⟨hy0', hy1'⟩ := hrv
  obtain ⟨W0, hW0⟩ : ∃ W0, w.alloc (.cells #[.int .i64 op, .int .i64 rd, .int .i64 k1, .int .i64 k2, .int .i64 im] 71) = W0 := ⟨_, rfl⟩
  have hs0 : W0.heap.size = w.heap.size + 1 := by rw [← hW0]; exact World.size_alloc _ _
  have hx0 : W0.heap[w.heap.size]? = some (.cells #[.int .i64 op, .int .i64 rd, .int .i64 k1, .int .i64 k2, .int .i64 im] 71 (0, 0)) := by rw [← hW0]; exact heap_alloc_new _ _
  rw [hW0] at HM HBl
  have HS : Hid (∀ w1, Below W0.heap.size W0 w1 → w1.cell? ⟨P.p, 33, none⟩ = some (.pointer (some ⟨P.mp, 0, none⟩)) ∧ w1.cell? ⟨P.p, k1, none⟩ = some (.int .u64 x) ∧ w1.cell? ⟨P.p, k2, none⟩ = some (.int .u64 y) ∧ w1.cell? ⟨w.heap.size, 0, none⟩ = some (.int .i64 op) ∧ w1.cell? ⟨w.heap.size, 2, none⟩ = some (.int .i64 k1) ∧ w1.cell? ⟨w.heap.size, 3, none⟩ = some (.int .i64 k2) ∧ w1.cell? ⟨w.heap.size, 4, none⟩ = some (.int .i64 im)) := bl.hid (fun w1 hb => by
    have hm := HM.out.keep hb
    have hr := (hb.block w.heap.size (by omega)).trans hx0
    refine ⟨hm.mC, ?_, ?_, (cell_of_row _ _ _ _ _ _ hr).trans rfl, (cell_of_row _ _ _ _ _ _ hr).trans rfl, (cell_of_row _ _ _ _ _ _ hr).trans rfl, (cell_of_row _ _ _ _ _ _ hr).trans rfl⟩
    · rw [← hx]; exact hm.regC k1 hk1
    · rw [← hy]; exact hm.regC k2 hk2)
  obtain ⟨AT, hAT⟩ : ∃ AT, IntKind.u64.wrap (x + IntKind.u64.wrap im) = AT := ⟨_, rfl⟩
  have hATu : st.isU AT := by rw [← hAT, wrap_u]; exact st.u64_isU _
  have hATe : st.atOf ⟨op, rd, k1, k2, im⟩ s = AT := by
    unfold st.atOf st.S.rg
    dsimp only
    rw [Int.toNat_natCast, hx, ← hAT, wrap_u, wrap_u]
  obtain ⟨E, hE⟩ : ∃ E, pl.ldE s.l AT (st.szN op) = E := ⟨_, rfl⟩
  obtain ⟨l2, hl2⟩ : ∃ l2, pl.stL s.l AT (st.szN op) y = l2 := ⟨_, rfl⟩
  have HSt : Hid (∀ w1, Below W0.heap.size W0 w1 → Calls Tryz.prog 55 #[.pointer (some ⟨P.mp, 0, none⟩), .int .u64 AT, .int .i64 (st.szN op), .int .u64 y] w1 fun e w2 => e = .returned (.int .i64 E) ∧ IsRM w2 P f { s with l := l2 } ∧ But2 P.p P.g w w2 ∧ w2.cell? ⟨P.p, 33, none⟩ = some (.pointer (some ⟨P.mp, 0, none⟩)) ∧ w2.cell? ⟨P.p, k1, none⟩ = some (.int .u64 x) ∧ w2.cell? ⟨P.p, k2, none⟩ = some (.int .u64 y) ∧ w2.cell? ⟨w.heap.size, 0, none⟩ = some (.int .i64 op) ∧ w2.cell? ⟨w.heap.size, 2, none⟩ = some (.int .i64 k1) ∧ w2.cell? ⟨w.heap.size, 3, none⟩ = some (.int .i64 k2) ∧ w2.cell? ⟨w.heap.size, 4, none⟩ = some (.int .i64 im)) := bl.hid (fun w1 hb => by
    have hm := HM.out.keep hb
    have := rstore_any P.mp P.g AT (st.szN op) y s.l w1 hm.mem hATu.1 hATu.2 HYu.out.1 HYu.out.2
    unfold RStorePost at this
    rw [hE, hl2] at this
    refine this.mono (fun e w2 q => ?_)
    obtain ⟨q1, q2, q3⟩ := q
    have hm2 := hm.store q2 q3
    have hg := h.mem.lt.2
    have hr := (q2.block w.heap.size (by omega)).trans ((hb.block w.heap.size (by omega)).trans hx0)
    refine ⟨q1, hm2, ((But2.of_below HBl.out).trans (But2.of_below (hb))).trans ⟨q2.os, q2.tape, q2.output, by rw [q2.size]; exact Nat.le_refl _, fun k _ h2 _ => q2.block k h2⟩, hm2.mC, ?_, ?_, (cell_of_row _ _ _ _ _ _ hr).trans rfl, (cell_of_row _ _ _ _ _ _ hr).trans rfl, (cell_of_row _ _ _ _ _ _ hr).trans rfl, (cell_of_row _ _ _ _ _ _ hr).trans rfl⟩
    · rw [← hx]; exact hm2.regC k1 hk1
    · rw [← hy]; exact hm2.regC k2 hk2)
  have HEx : Hid (st.exStore ⟨op, rd, k1, k2, im⟩ s = if E ≠ 0 then (5, s) else (0, ({ s with l := l2 } : st.S).nxt)) := bl.hid (by
    unfold st.exStore
    rw [hATe]
    dsimp only
    have hrg : s.rg (k2 : Int) = y := by unfold st.S.rg; rw [Int.toNat_natCast, hy]
    rw [hE, hrg, hl2])
  have HNo : Hid (E ≠ 0 → l2 = s.l) := bl.hid (fun hne => by
    rw [← hl2]
    unfold pl.stL
    rw [if_neg]
    intro hc
    rw [Bool.and_eq_true] at hc
    apply hne
    rw [← hE]
    unfold pl.ldE
    rw [if_pos hc.1, if_pos hc.2])
  have HPc : Hid (st.isU s.pc) := bl.hid h.ok.pc
  obtain ⟨R, hR⟩ : ∃ R, st.exStore ⟨op, rd, k1, k2, im⟩ s = R := ⟨_, rfl⟩
  rw [hR]
  have HR := bl.hid (hR.symm.trans HEx.out)
  have HSz := bl.hid (rsizes_any op)
  obtain ⟨zn, hzn⟩ : ∃ zn, st.szN op = zn := ⟨_, rfl⟩
  obtain ⟨zs, hzs⟩ : ∃ zs, st.rszS op = zs := ⟨_, rfl⟩
  rw [hzn, hzs] at HSz
  rw [hzn] at HSt
  have HD : Hid (∀ n, Below W0.heap.size W0 (W0.drewN n)) := bl.hid (fun n => (Below.refl _ _).drewN' n)
  obtain ⟨d0, d1, d2, d3, d4, d5, d6⟩ := HS.out W0 (Below.refl _ _)
  have j0 : (0 : Int) ≤ (k1 : Int) := by omega
  have j1 : (k1 : Int) < 32 := by omega
  have j2 : (0 : Int) ≤ (k2 : Int) := by omega
  have j3 : (k2 : Int) < 32 := by omega
  clear h hi hx hy hx0 hR hATe hE hl2 HEx hzn hzs hr1 hr2
  go_enter Tryz.func34, Tryz.ntmps34
  go_wp2_with fail
  clear hW0
  refine (HSz.out _).mono ?_
  rintro e w1 ⟨rfl, hw⟩
  subst w1
  go_wp2
  go_quiet (fail)
  go_wp2
  go_region_held3 (fun w' => w'.cell? ⟨P.p, 33, none⟩ = some (.pointer (some ⟨P.mp, 0, none⟩)) ∧ w'.cell? ⟨P.p, k2, none⟩ = some (.int .u64 y) ∧ w'.cell? ⟨w.heap.size, 3, none⟩ = some (.int .i64 k2)) ((first | with_reducible assumption | go_keep))
    ((first
      | (go_at_call 55; with_reducible refine (HSt.out _ (HD.out _)).mono ?_; rintro e w2 ⟨rfl, hm2, hbt, f0, f1, f2, f3, f4, f5, f6⟩; have HM2 := bl.hid hm2; have HB2 := bl.hid hbt; clear hm2 hbt)))
  by_cases hE0 : E = 0
  · subst hE0
    have c := HM2.out.pcC
    have fr := frozen_of_row w2 P.p 32 _ _ HM2.out.row
    have HN := bl.hid HM2.out.nxt
    dsimp only at c
    obtain ⟨pc, hpc⟩ : ∃ pc, s.pc = pc := ⟨_, rfl⟩
    rw [hpc] at c HPc
    have HPe := bl.hid hpc
    have p0 := HPc.out.1
    have p1 := HPc.out.2
    clear f0 f1 f2 f3 f4 f5 f6 d0 d1 d2 d3 d4 d5 d6 hpc
    go_wp2
    go_ret
    rw [HR.out, if_neg (by simp)]
    obtain ⟨n1, n2⟩ := HN.out _ (by show _ = st.u64 (s.pc + 4); rw [HPe.out])
    exact ⟨rfl, n1, HB2.out.trans n2⟩
  · have hE1 : (E == 0) = false := by simpa using hE0
    have HE : Hid (RTurn P f (.int .i64 R.1) R.2 w (.returned (.int .i64 5)) w2) := bl.hid (by
      rw [HR.out, if_pos hE0]
      have := HM2.out
      rw [HNo.out hE0] at this
      exact ⟨rfl, this, HB2.out⟩)
    clear hE0
    go_wp2
    go_ret
    exact HE.out
set_option maxHeartbeats 3200000 in
theorem rload_ex (w : World) (P : st.Pl) (f : Nat → Int) (s : st.S) (i : st.In) (h : IsRM w P f s) (hi : st.InOk i) (h5 : 11 ≤ i.op) (h10 : i.op ≤ 17) :
    Calls Tryz.prog 34 #[.pointer (some ⟨P.p, 0, none⟩), .agg i.cells] w (RTurn P f (.int .i64 (st.exLoad i s).1) (st.exLoad i s).2 w) := by
  obtain ⟨op, rd, rs1, rs2, im⟩ := i
  show Calls Tryz.prog 34 #[.pointer (some ⟨P.p, 0, none⟩), .agg #[.int .i64 op, .int .i64 rd, .int .i64 rs1, .int .i64 rs2, .int .i64 im]] w _
  have hl := h.lt
  have him := hi.im
  have hr1 := hi.rs1
  have hrd := hi.rd
  dsimp only at him hr1 hrd h5 h10
  obtain ⟨k1, hk1⟩ : ∃ k1 : Nat, rs1 = k1 := ⟨rs1.toNat, by omega⟩
  subst hk1
  have hk1 : k1 < 32 := by omega
  have HM := bl.hid (h.keep (kt.below_row (w := w) (.cells #[.int .i64 op, .int .i64 rd, .int .i64 k1, .int .i64 rs2, .int .i64 im] 71)))
  have HBl : Hid (Below w.heap.size w (w.alloc (.cells #[.int .i64 op, .int .i64 rd, .int .i64 k1, .int .i64 rs2, .int .i64 im] 71))) := bl.hid (kt.below_row _)
  have hru := h.ok.r k1 hk1
  obtain ⟨x, hx⟩ : ∃ x, s.r k1 = x := ⟨_, rfl⟩
  rw [hx] at hru
  unfold st.isU at hru
  obtain ⟨hx0', hx1'⟩ := hru
  obtain ⟨W0, hW0⟩ : ∃ W0, w.alloc (.cells #[.int .i64 op, .int .i64 rd, .int .i64 k1, .int .i64 rs2, .int .i64 im] 71) = W0 := ⟨_, rfl⟩
  have hs0 : W0.heap.size = w.heap.size + 1 := by rw [← hW0]; exact World.size_alloc _ _
  have hx0 : W0.heap[w.heap.size]? = some (.cells #[.int .i64 op, .int .i64 rd, .int .i64 k1, .int .i64 rs2, .int .i64 im] 71 (0, 0)) := by rw [← hW0]; exact heap_alloc_new _ _
  rw [hW0] at HM HBl
  have HS : Hid (∀ w1, Below W0.heap.size W0 w1 → w1.cell? ⟨P.p, 33, none⟩ = some (.pointer (some ⟨P.mp, 0, none⟩)) ∧ w1.cell? ⟨P.p, k1, none⟩ = some (.int .u64 x) ∧ w1.cell? ⟨w.heap.size, 0, none⟩ = some (.int .i64 op) ∧ w1.cell? ⟨w.heap.size, 1, none⟩ = some (.int .i64 rd) ∧ w1.cell? ⟨w.heap.size, 2, none⟩ = some (.int .i64 k1) ∧ w1.cell? ⟨w.heap.size, 4, none⟩ = some (.int .i64 im)) := bl.hid (fun w1 hb => by
    have hm := HM.out.keep hb
    have hr := (hb.block w.heap.size (by omega)).trans hx0
    refine ⟨hm.mC, ?_, (cell_of_row _ _ _ _ _ _ hr).trans rfl, (cell_of_row _ _ _ _ _ _ hr).trans rfl, (cell_of_row _ _ _ _ _ _ hr).trans rfl, (cell_of_row _ _ _ _ _ _ hr).trans rfl⟩
    rw [← hx]; exact hm.regC k1 hk1)
  obtain ⟨AT, hAT⟩ : ∃ AT, IntKind.u64.wrap (x + IntKind.u64.wrap im) = AT := ⟨_, rfl⟩
  have hATu : st.isU AT := by rw [← hAT, wrap_u]; exact st.u64_isU _
  have hATe : st.atOf ⟨op, rd, k1, rs2, im⟩ s = AT := by
    unfold st.atOf st.S.rg
    dsimp only
    rw [Int.toNat_natCast, hx, ← hAT, wrap_u, wrap_u]
  have HLd : Hid (∀ w1, Below W0.heap.size W0 w1 → Calls Tryz.prog 56 #[.pointer (some ⟨P.mp, 0, none⟩), .int .u64 AT, .int .i64 (st.szN op)] w1 fun e w2 => e = .returned (.tuple #[.int .u64 (pl.ldV s.l AT (st.szN op)), .int .i64 (pl.ldE s.l AT (st.szN op))]) ∧ w1 = w2) := bl.hid (fun w1 hb => rload_any P.mp P.g AT (st.szN op) s.l w1 (HM.out.keep hb).mem hATu.1 hATu.2)
  have HVu : Hid (st.isU (pl.ldV s.l AT (st.szN op))) := bl.hid (ldV_isU _ _ _ h.mem.bytes)
  have hsz : st.rszS op = st.szS op := by
    unfold st.rszS st.szS
    by_cases h14 : op ≤ 14
    · rw [decide_eq_true (by omega), decide_eq_true (by omega)]
    · rw [decide_eq_false (by omega), decide_eq_false (by omega)]
  have HEx : Hid (st.exLoad ⟨op, rd, k1, rs2, im⟩ s = if pl.ldE s.l AT (st.szN op) ≠ 0 then (5, s) else (0, (s.put rd (if st.rszS op then wd.sx (pl.ldV s.l AT (st.szN op)) (st.szN op) else pl.ldV s.l AT (st.szN op))).nxt)) := bl.hid (by
    rw [hsz]
    unfold st.exLoad
    rw [hATe])
  obtain ⟨R, hR⟩ : ∃ R, st.exLoad ⟨op, rd, k1, rs2, im⟩ s = R := ⟨_, rfl⟩
  rw [hR]
  rw [hR] at HEx
  have HSz := bl.hid (rsizes_any op)
  obtain ⟨V, hV⟩ : ∃ V, pl.ldV s.l AT (st.szN op) = V := ⟨_, rfl⟩
  obtain ⟨E, hE⟩ : ∃ E, pl.ldE s.l AT (st.szN op) = E := ⟨_, rfl⟩
  rw [hV] at HVu
  rw [hV, hE] at HLd HEx
  obtain ⟨zn, hzn⟩ : ∃ zn, st.szN op = zn := ⟨_, rfl⟩
  obtain ⟨zs, hzs⟩ : ∃ zs, st.rszS op = zs := ⟨_, rfl⟩
  rw [hzn, hzs] at HSz HEx
  rw [hzn] at HLd
  have HSx : Hid (∀ w, Calls Tryz.prog 57 #[.int .u64 V, .int .i64 zn] w fun e w' => e = .returned (.int .u64 (wd.sx V zn)) ∧ w = w') := bl.hid (fun w => rsext_any V zn w HVu.out.1 HVu.out.2)
  have HSu : Hid (st.isU (wd.sx V zn)) := bl.hid (sx_bd V zn HVu.out.1 HVu.out.2)
  have HD : Hid (∀ n, Below W0.heap.size W0 (W0.drewN n)) := bl.hid (fun n => (Below.refl _ _).drewN' n)
  have HPt : Hid (∀ (w1 : World) (v : Int), Below W0.heap.size W0 w1 → st.isU v → Calls Tryz.prog 15 #[.pointer (some ⟨P.p, 0, none⟩), .int .i64 rd, .int .u64 v] w1 (fun e w2 => e = .returned (.int .i64 0) ∧ IsRM w2 P f (s.put rd v) ∧ But2 P.p P.g w w2)) := bl.hid (fun w1 v hb hv => (rsput_any w1 P f s rd v (HM.out.keep hb) hrd hv).mono (fun e w2 q => ⟨q.1, q.2.1, ((But2.of_below HBl.out).trans (But2.of_below hb)).trans q.2.2⟩))
  have HPc : Hid (∀ v, st.isU (s.put rd v).pc ∧ (s.put rd v).pc = s.pc) := bl.hid (fun v => by
    have e : (s.put rd v).pc = s.pc := by unfold st.S.put; split <;> rfl
    rw [e]
    exact ⟨h.ok.pc, rfl⟩)
  obtain ⟨d0, d1, d2, d3, d4, d5⟩ := HS.out W0 (Below.refl _ _)
  have j0 : (0 : Int) ≤ (k1 : Int) := by omega
  have j1 : (k1 : Int) < 32 := by omega
  clear h hi hx hx0 hR hATe hE hV hzn hzs hr1 hrd hsz
  go_enter Tryz.func34, Tryz.ntmps34
  go_wp2_with fail
  clear hW0
  refine (HSz.out _).mono ?_
  rintro e w1 ⟨rfl, hw⟩
  subst w1
  go_wp2
  go_quiet (fail)
  go_wp2_with fail
  refine (HLd.out _ (HD.out _)).mono ?_
  rintro e w1 ⟨rfl, hw⟩
  subst w1
  by_cases hE0 : E = 0
  rotate_left
  · have hE1 : (E == 0) = false := by simpa using hE0
    have HE : Hid (∀ n, RTurn P f (.int .i64 R.1) R.2 w (.returned (.int .i64 5)) (W0.drewN n)) := bl.hid (fun n => by
      rw [HEx.out, if_pos hE0]
      exact ⟨rfl, HM.out.drewN n, (But2.of_below HBl.out).trans (But2.of_below (HD.out n))⟩)
    clear hE0
    go_wp2
    go_ret
    exact HE.out _
  subst hE0
  cases zs with
  | false =>
    have HP := bl.hid (HPt.out _ V (HD.out nq) HVu.out)
    go_wp2_with fail
    refine HP.out.mono ?_
    rintro e w2 ⟨rfl, hm2, hb2⟩
    have c := hm2.pcC
    have fr := frozen_of_row w2 P.p 32 _ _ hm2.row
    have HN := bl.hid hm2.nxt
    have HB2 := bl.hid hb2
    obtain ⟨p0, p1⟩ := (HPc.out V).1
    obtain ⟨pc, hpc⟩ : ∃ pc, (s.put rd V).pc = pc := ⟨_, rfl⟩
    rw [hpc] at c p0 p1
    have HPe := bl.hid hpc
    clear hm2 hb2 d0 d1 d2 d3 d4 d5 hpc
    go_wp2
    go_ret
    rw [HEx.out, if_neg (by simp)]
    obtain ⟨n1, n2⟩ := HN.out _ (by rw [HPe.out])
    exact ⟨rfl, n1, HB2.out.trans n2⟩
  | true =>
    go_wp2_with fail
    refine (HSx.out _).mono ?_
    rintro e w1 ⟨rfl, hw⟩
    subst w1
    have HP := bl.hid (HPt.out _ (wd.sx V zn) (HD.out nq) HSu.out)
    obtain ⟨V2, hV2⟩ : ∃ V2, wd.sx V zn = V2 := ⟨_, rfl⟩
    rw [hV2] at HP HEx ⊢
    clear hV2
    go_wp2_with fail
    refine HP.out.mono ?_
    rintro e w2 ⟨rfl, hm2, hb2⟩
    have c := hm2.pcC
    have fr := frozen_of_row w2 P.p 32 _ _ hm2.row
    have HN := bl.hid hm2.nxt
    have HB2 := bl.hid hb2
    obtain ⟨p0, p1⟩ := (HPc.out V2).1
    obtain ⟨pc, hpc⟩ : ∃ pc, (s.put rd V2).pc = pc := ⟨_, rfl⟩
    rw [hpc] at c p0 p1
    have HPe := bl.hid hpc
    clear hm2 hb2 d0 d1 d2 d3 d4 d5 hpc
    go_wp2
    go_ret
    rw [HEx.out, if_neg (by simp)]
    obtain ⟨n1, n2⟩ := HN.out _ (by rw [HPe.out])
    exact ⟨rfl, n1, HB2.out.trans n2⟩
end Go.Proofs.YtjjkocklpcdbkaaGreat
