/- The reference's jumps, walked. -/
import Derived.Test.YtjjkocklpcdbkaaGreatRsMemory
namespace Go.Proofs.YtjjkocklpcdbkaaGreat
open Go.RowKit
set_option linter.unusedVariables false
set_option maxRecDepth 100000
set_option maxHeartbeats 3200000 in
theorem rjumps_any (w : World) (P : st.Pl) (f : Nat → Int) (s : st.S) (i : st.In) (h : IsRM w P f s) (hi : st.InOk i) (h5 : 3 ≤ i.op) (h10 : i.op ≤ 10) :
    Calls Tryz.prog 35 #[.pointer (some ⟨P.p, 0, none⟩), .agg i.cells] w (RTurn P f (.tuple #[]) (if i.op ≤ 4 then st.exJump i s else st.exBranch i s) w) := by
  obtain ⟨op, rd, rs1, rs2, im⟩ := i
  show Calls Tryz.prog 35 #[.pointer (some ⟨P.p, 0, none⟩), .agg #[.int .i64 op, .int .i64 rd, .int .i64 rs1, .int .i64 rs2, .int .i64 im]] w _
  have hl := h.lt
  have him := hi.im
  have hr1 := hi.rs1
  have hr2 := hi.rs2
  have hrd := hi.rd
  dsimp only at him hr1 hr2 hrd h5 h10
  obtain ⟨k1, hk1⟩ : ∃ k1 : Nat, rs1 = k1 := ⟨rs1.toNat, by omega⟩
  obtain ⟨k2, hk2⟩ : ∃ k2 : Nat, rs2 = k2 := ⟨rs2.toNat, by omega⟩
  subst hk1 hk2
  have hk1 : k1 < 32 := by omega
  have hk2 : k2 < 32 := by omega
  have HM := bl.hid (h.keep (kt.below_row (w := w) (.cells #[.int .i64 op, .int .i64 rd, .int .i64 k1, .int .i64 k2, .int .i64 im] 71)))
  have HBl : Hid (Below w.heap.size w (w.alloc (.cells #[.int .i64 op, .int .i64 rd, .int .i64 k1, .int .i64 k2, .int .i64 im] 71))) := bl.hid (kt.below_row _)
  have hru := h.ok.r k1 hk1
  have hrv := h.ok.r k2 hk2
  have hpc := h.ok.pc
  obtain ⟨x, hx⟩ : ∃ x, s.r k1 = x := ⟨_, rfl⟩
  obtain ⟨y, hy⟩ : ∃ y, s.r k2 = y := ⟨_, rfl⟩
  obtain ⟨pc, hpe⟩ : ∃ pc, s.pc = pc := ⟨_, rfl⟩
  rw [hx] at hru
  rw [hy] at hrv
  rw [hpe] at hpc
  unfold st.isU at hru hrv hpc
  obtain ⟨hx0', hx1'⟩ := hru
  obtain ⟨hy0', hy1'⟩ := hrv
  obtain ⟨hp0', hp1'⟩ := hpc
  obtain ⟨W0, hW0⟩ : ∃ W0, w.alloc (.cells #[.int .i64 op, .int .i64 rd, .int .i64 k1, .int .i64 k2, .int .i64 im] 71) = W0 := ⟨_, rfl⟩
  have hs0 : W0.heap.size = w.heap.size + 1 := by rw [← hW0]; exact World.size_alloc _ _
  have hx0 : W0.heap[w.heap.size]? = some (.cells #[.int .i64 op, .int .i64 rd, .int .i64 k1, .int .i64 k2, .int .i64 im] 71 (0, 0)) := by rw [← hW0]; exact heap_alloc_new _ _
  rw [hW0] at HM HBl
  have HS : Hid (∀ w1, Below W0.heap.size W0 w1 → w1.cell? ⟨P.p, 32, none⟩ = some (.int .u64 pc) ∧ w1.cell? ⟨P.p, k1, none⟩ = some (.int .u64 x) ∧ w1.cell? ⟨P.p, k2, none⟩ = some (.int .u64 y) ∧ w1.cell? ⟨w.heap.size, 0, none⟩ = some (.int .i64 op) ∧ w1.cell? ⟨w.heap.size, 1, none⟩ = some (.int .i64 rd) ∧ w1.cell? ⟨w.heap.size, 2, none⟩ = some (.int .i64 k1) ∧ w1.cell? ⟨w.heap.size, 3, none⟩ = some (.int .i64 k2) ∧ w1.cell? ⟨w.heap.size, 4, none⟩ = some (.int .i64 im)) := bl.hid (fun w1 hb => by
    have hm := HM.out.keep hb
    have hr := (hb.block w.heap.size (by omega)).trans hx0
    refine ⟨?_, ?_, ?_, (cell_of_row _ _ _ _ _ _ hr).trans rfl, (cell_of_row _ _ _ _ _ _ hr).trans rfl, (cell_of_row _ _ _ _ _ _ hr).trans rfl, (cell_of_row _ _ _ _ _ _ hr).trans rfl, (cell_of_row _ _ _ _ _ _ hr).trans rfl⟩
    · rw [← hpe]; exact hm.pcC
    · rw [← hx]; exact hm.regC k1 hk1
    · rw [← hy]; exact hm.regC k2 hk2)
  have HD : Hid (∀ n, Below W0.heap.size W0 (W0.drewN n)) := bl.hid (fun n => (Below.refl _ _).drewN' n)
  have HPt : Hid (∀ (w1 : World) (v : Int), Below W0.heap.size W0 w1 → st.isU v → Calls Tryz.prog 15 #[.pointer (some ⟨P.p, 0, none⟩), .int .i64 rd, .int .u64 v] w1 (fun e w2 => e = .returned (.int .i64 0) ∧ IsRM w2 P f (s.put rd v) ∧ But2 P.p P.g w w2 ∧ w2.cell? ⟨w.heap.size, 4, none⟩ = some (.int .i64 im))) := bl.hid (fun w1 v hb hv => (rsput_any w1 P f s rd v (HM.out.keep hb) hrd hv).mono (fun e w2 q => ⟨q.1, q.2.1, ((But2.of_below HBl.out).trans (But2.of_below hb)).trans q.2.2, by
    have hg := h.mem.lt.2
    have hbs := hb.size
    exact (cell_of_row _ _ _ _ _ _ ((q.2.2.block _ (by omega) (by omega) (by omega)).trans ((hb.block w.heap.size (by omega)).trans hx0))).trans rfl⟩))
  have HGo : Hid (∀ w1 s1 a, IsRM w1 P f s1 → st.isU a → IsRM (w1.setCell ⟨P.p, 32, none⟩ (.int .u64 a)) P f (s1.go a) ∧ But2 P.p P.g w1 (w1.setCell ⟨P.p, 32, none⟩ (.int .u64 a))) := bl.hid (fun w1 s1 a h1 ha => h1.goes a ha)
  have HU : Hid (∀ v, st.isU (IntKind.u64.wrap v)) := bl.hid (fun v => by rw [wrap_u]; exact st.u64_isU _)
  have HJ : Hid (st.exJump ⟨op, rd, k1, k2, im⟩ s = (s.put rd (IntKind.u64.wrap (pc + 4))).go (if op = 4 then IntKind.u64.wrap (x + IntKind.u64.wrap im) / 2 * 2 else IntKind.u64.wrap (pc + IntKind.u64.wrap im))) := bl.hid (by
    unfold st.exJump st.jTo st.S.rg
    dsimp only
    rw [Int.toNat_natCast, hx, hpe]
    simp only [wrap_u])
  have HBr : Hid (st.exBranch ⟨op, rd, k1, k2, im⟩ s = if st.taken op x y then s.go (IntKind.u64.wrap (pc + IntKind.u64.wrap im)) else s.go (IntKind.u64.wrap (pc + 4))) := bl.hid (by
    unfold st.exBranch st.S.nxt st.S.rg
    dsimp only
    rw [Int.toNat_natCast, Int.toNat_natCast, hx, hy, hpe]
    simp only [wrap_u])
  have HTk : Hid (5 ≤ op → ∀ w, Calls Tryz.prog 58 #[.int .i64 op, .int .u64 x, .int .u64 y] w fun e w' => e = .returned (.bool (st.taken op x y)) ∧ w' = w) := bl.hid (fun h5' w => rtakes_any op x y w ⟨h5', h10⟩ hx0' hx1' hy0' hy1')
  obtain ⟨R, hR⟩ : ∃ R, (if op ≤ 4 then st.exJump ⟨op, rd, k1, k2, im⟩ s else st.exBranch ⟨op, rd, k1, k2, im⟩ s) = R := ⟨_, rfl⟩
  have HR := bl.hid hR
  show Calls Tryz.prog 35 #[.pointer (some ⟨P.p, 0, none⟩), .agg #[.int .i64 op, .int .i64 rd, .int .i64 k1, .int .i64 k2, .int .i64 im]] w (RTurn P f (.tuple #[]) (if op ≤ 4 then st.exJump ⟨op, rd, k1, k2, im⟩ s else st.exBranch ⟨op, rd, k1, k2, im⟩ s) w)
  rw [hR]
  obtain ⟨d0, d1, d2, d3, d4, d5, d6, d7⟩ := HS.out W0 (Below.refl _ _)
  have fr := frozen_of_row W0 P.p 32 _ _ HM.out.row
  have j0 : (0 : Int) ≤ (k1 : Int) := by omega
  have j1 : (k1 : Int) < 32 := by omega
  have j2 : (0 : Int) ≤ (k2 : Int) := by omega
  have j3 : (k2 : Int) < 32 := by omega
  obtain ⟨N4, hN4⟩ : ∃ N4, IntKind.u64.wrap (pc + 4) = N4 := ⟨_, rfl⟩
  obtain ⟨NB, hNB⟩ : ∃ NB, IntKind.u64.wrap (pc + IntKind.u64.wrap im) = NB := ⟨_, rfl⟩
  obtain ⟨AT, hAT⟩ : ∃ AT, IntKind.u64.wrap (x + IntKind.u64.wrap im) = AT := ⟨_, rfl⟩
  have HN4 : Hid (st.isU N4) := bl.hid (by rw [← hN4]; exact HU.out _)
  have HNB : Hid (st.isU NB) := bl.hid (by rw [← hNB]; exact HU.out _)
  have hAu : st.isU AT := by rw [← hAT]; exact HU.out _
  unfold st.isU at hAu
  obtain ⟨Q, hQ⟩ : ∃ Q, AT / 2 = Q := ⟨_, rfl⟩
  have hQ2 : AT.tdiv 2 = Q := by rw [Int.tdiv_eq_ediv_of_nonneg hAu.1]; exact hQ
  have hQ3 : IntKind.u64.wrap (Q * 2) = Q * 2 := by rw [wrap_u]; unfold st.u64; omega
  have HQu : Hid (st.isU (Q * 2)) := bl.hid (by unfold st.isU; omega)
  rw [hN4, hNB, hAT, hQ] at HJ
  rw [hN4, hNB] at HBr
  obtain ⟨ha0, ha1⟩ := hAu
  clear h hi hx hy hpe hx0 hR hr1 hr2 hrd
  by_cases h3 : op = 3
  · subst h3
    go_enter Tryz.func35, Tryz.ntmps35
    go_wp2
    clear hW0
    go_quiet (fail)
    go_wp2
    go_quiet (fail)
    go_wp2_with fail
    refine (HPt.out _ _ (HD.out _) HN4.out).mono ?_
    rintro e w2 ⟨rfl, hm2, hb2, b4⟩
    have fr2 := frozen_of_row w2 P.p 32 _ _ hm2.row
    have c2 := hm2.pcC
    obtain ⟨g1, g2⟩ := HGo.out _ _ NB hm2 HNB.out
    have HE : Hid (RTurn P f (.tuple #[]) R w (.returned (.tuple #[])) (w2.setCell ⟨P.p, 32, none⟩ (.int .u64 NB))) := bl.hid (by
      rw [← HR.out, if_pos (by decide), HJ.out, if_neg (by decide)]
      exact ⟨rfl, g1, hb2.trans g2⟩)
    clear hm2 hb2 g1 g2
    go_wp2
    go_end0
    exact HE.out
  by_cases h4 : op = 4
  · subst h4
    go_enter Tryz.func35, Tryz.ntmps35
    go_wp2
    clear hW0
    go_quiet (fail)
    go_wp2
    go_quiet (fail)
    go_wp2_with fail
    refine (HPt.out _ _ (HD.out _) HN4.out).mono ?_
    rintro e w2 ⟨rfl, hm2, hb2, b4⟩
    have fr2 := frozen_of_row w2 P.p 32 _ _ hm2.row
    have c2 := hm2.pcC
    obtain ⟨g1, g2⟩ := HGo.out _ _ (Q * 2) hm2 HQu.out
    have HE : Hid (RTurn P f (.tuple #[]) R w (.returned (.tuple #[])) (w2.setCell ⟨P.p, 32, none⟩ (.int .u64 (Q * 2)))) := bl.hid (by
      rw [← HR.out, if_pos (by decide), HJ.out, if_pos trivial]
      exact ⟨rfl, g1, hb2.trans g2⟩)
    clear hm2 hb2 g1 g2
    go_wp2
    go_end0
    exact HE.out
  have h3' : (op == 3) = false := by simpa using h3
  have h4' : (op == 4) = false := by simpa using h4
  have HT := bl.hid (HTk.out (by omega))
  have HR2 : Hid (st.exBranch ⟨op, rd, k1, k2, im⟩ s = R) := bl.hid (by rw [← HR.out, if_neg (by omega)])
  obtain ⟨t, ht⟩ : ∃ t, st.taken op x y = t := ⟨_, rfl⟩
  rw [ht] at HT HBr
  clear h3 h4 ht HJ
  have HG : Hid (∀ n a, st.isU a → IsRM ((W0.drewN n).setCell ⟨P.p, 32, none⟩ (.int .u64 a)) P f (s.go a) ∧ But2 P.p P.g w ((W0.drewN n).setCell ⟨P.p, 32, none⟩ (.int .u64 a))) := bl.hid (fun n a ha => by
    obtain ⟨g1, g2⟩ := HGo.out (W0.drewN n) s a (HM.out.drewN n) ha
    exact ⟨g1, ((But2.of_below HBl.out).trans (But2.of_below (HD.out n))).trans g2⟩)
  cases t with
  | true =>
    go_enter Tryz.func35, Tryz.ntmps35
    go_wp2
    clear hW0
    go_quiet (fail)
    go_wp2
    go_quiet (fail)
    go_wp2_with fail
    refine (HT.out _).mono ?_
    rintro e w1 ⟨rfl, hw⟩
    subst w1
    go_wp2
    go_end0
    rw [← HR2.out, HBr.out, if_pos trivial]
    exact ⟨rfl, (HG.out _ _ HNB.out).1, (HG.out _ _ HNB.out).2⟩
  | false =>
    go_enter Tryz.func35, Tryz.ntmps35
    go_wp2
    clear hW0
    go_quiet (fail)
    go_wp2
    go_quiet (fail)
    go_wp2_with fail
    refine (HT.out _).mono ?_
    rintro e w1 ⟨rfl, hw⟩
    subst w1
    go_wp2
    go_end0
    rw [← HR2.out, HBr.out, if_neg (by simp)]
    exact ⟨rfl, (HG.out _ _ HN4.out).1, (HG.out _ _ HN4.out).2⟩
end Go.Proofs.YtjjkocklpcdbkaaGreat
