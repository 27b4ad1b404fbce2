/- The reference's Step, walked. -/
import Derived.Test.YtjjkocklpcdbkaaGreatRsJumps
namespace Go.Proofs.YtjjkocklpcdbkaaGreat
open Go.RowKit
set_option linter.unusedVariables false
set_option maxRecDepth 100000
namespace st
theorem pr_form : ∀ k : Nat, 22 ≤ k → k ≤ 62 → ((rv.row k).form.toList == [82]) = !(pr k).2.2 := by
  intro k h1 h2
  have hc : k = 22 ∨ k = 23 ∨ k = 24 ∨ k = 25 ∨ k = 26 ∨ k = 27 ∨ k = 28 ∨ k = 29 ∨ k = 30 ∨ k = 31 ∨ k = 32 ∨ k = 33 ∨ k = 34 ∨ k = 35 ∨ k = 36 ∨ k = 37 ∨ k = 38 ∨ k = 39 ∨ k = 40 ∨ k = 41 ∨ k = 42 ∨ k = 43 ∨ k = 44 ∨ k = 45 ∨ k = 46 ∨ k = 47 ∨ k = 48 ∨ k = 49 ∨ k = 50 ∨ k = 51 ∨ k = 52 ∨ k = 53 ∨ k = 54 ∨ k = 55 ∨ k = 56 ∨ k = 57 ∨ k = 58 ∨ k = 59 ∨ k = 60 ∨ k = 61 ∨ k = 62 := by omega
  rcases hc with rfl | rfl | rfl | rfl | rfl | rfl | rfl | rfl | rfl | rfl | rfl | rfl | rfl | rfl | rfl | rfl | rfl | rfl | rfl | rfl | rfl | rfl | rfl | rfl | rfl | rfl | rfl | rfl | rfl | rfl | rfl | rfl | rfl | rfl | rfl | rfl | rfl | rfl | rfl | rfl | rfl <;> decide +kernel
end st
/-- behind fetch: the instruction in a box, beside the machine -/
structure RBox (w wx : World) (P : st.Pl) (f : Nat → Int) (s : st.S) (b : Nat) (i : st.In) : Prop where
  m : IsRM wx P f s
  row : wx.heap[b]? = some (.cells i.cells 71 (0, 0))
  below : Below w.heap.size w wx
theorem RBox.cells {w wx : World} {P : st.Pl} {f : Nat → Int} {s : st.S} {b : Nat} {op rd rs1 rs2 im : Int} (h : RBox w wx P f s b ⟨op, rd, rs1, rs2, im⟩) :
    wx.cell? ⟨b, 0, none⟩ = some (.int .i64 op) ∧ wx.cell? ⟨b, 1, none⟩ = some (.int .i64 rd) ∧ wx.cell? ⟨b, 2, none⟩ = some (.int .i64 rs1) ∧ wx.cell? ⟨b, 3, none⟩ = some (.int .i64 rs2) ∧ wx.cell? ⟨b, 4, none⟩ = some (.int .i64 im) ∧ IsRM wx P f s :=
  ⟨(cell_of_row _ _ _ _ _ _ h.row).trans rfl, (cell_of_row _ _ _ _ _ _ h.row).trans rfl, (cell_of_row _ _ _ _ _ _ h.row).trans rfl, (cell_of_row _ _ _ _ _ _ h.row).trans rfl, (cell_of_row _ _ _ _ _ _ h.row).trans rfl, h.m⟩
theorem after_fetch (w w1 W1 : World) (P : st.Pl) (f : Nat → Int) (s : st.S) (i : st.In) (h : IsRM w P f s) (hb : Below w.heap.size w w1) (hW : w1.alloc (.cells i.cells 71) = W1) : ∀ wx, Below W1.heap.size W1 wx → RBox w wx P f s w1.heap.size i := by
  subst hW
  intro wx hx
  have h1 : Below w.heap.size w (w1.alloc (.cells i.cells 71)) := hb.alloc hb.size _
  have h2 : Below w.heap.size w wx := h1.trans (hx.mono h1.size)
  exact ⟨h.keep h2, (hx.block _ (by rw [World.size_alloc]; omega)).trans (heap_alloc_new _ _), h2⟩
set_option maxHeartbeats 3200000 in
theorem rstep_call (w : World) (P : st.Pl) (f : Nat → Int) (s : st.S) (i : st.In) (h : IsRM w P f s) (hi : st.InOk i) (h63 : i.op = 63)
    (hF : Calls Tryz.prog 31 #[.pointer (some ⟨P.p, 0, none⟩)] w (FetchPost i 0 w)) :
    Calls Tryz.prog 11 #[.pointer (some ⟨P.p, 0, none⟩)] w (RTurn P f (.int .i64 (st.exec i s).1) (st.exec i s).2 w) := by
  obtain ⟨op, rd, rs1, rs2, im⟩ := i
  have him := hi.im
  have hr1 := hi.rs1
  have hr2 := hi.rs2
  have hrd := hi.rd
  have hio := hi.op
  dsimp only at him hr1 hr2 hrd hio h63
  obtain ⟨k1, hk1⟩ : ∃ k1 : Nat, rs1 = k1 := ⟨rs1.toNat, by omega⟩
  obtain ⟨k2, hk2⟩ : ∃ k2 : Nat, rs2 = k2 := ⟨rs2.toNat, by omega⟩
  obtain ⟨ko, hko⟩ : ∃ ko : Nat, op = ko := ⟨op.toNat, by omega⟩
  subst hk1 hk2
  have hk1 : k1 < 32 := by omega
  have hk2 : k2 < 32 := by omega
  have j0 : (0 : Int) ≤ (k1 : Int) := by omega
  have j1 : (k1 : Int) < 32 := by omega
  have j2 : (0 : Int) ≤ (k2 : Int) := by omega
  have j3 : (k2 : Int) < 32 := by omega
  have HH := bl.hid h
  have HI := bl.hid hi
  have HRd := bl.hid hrd
  have HFe : Hid (Calls Tryz.prog 31 #[.pointer (some ⟨P.p, 0, none⟩)] w fun e w1 => e = .returned (.tuple #[.agg #[.int .i64 op, .int .i64 rd, .int .i64 k1, .int .i64 k2, .int .i64 im], .int .i64 0]) ∧ Below w.heap.size w w1) := bl.hid hF
  have HSz := bl.hid (rsizes_any op)
  have HFn : Hid (∀ w, Calls Tryz.prog 33 #[.int .i64 op] w fun e w' => e = .returned (.tuple #[.int .i64 (st.pr op.toNat).1, .bool (st.pr op.toNat).2.1]) ∧ w' = w) := bl.hid (by rw [hko]; exact fun w => rfunction_any ko (by omega) w)
  obtain ⟨R, hR⟩ : ∃ R, st.exec ⟨op, rd, k1, k2, im⟩ s = R := ⟨_, rfl⟩
  have HR := bl.hid hR
  rw [hR]
  clear h hi hF hR hr1 hr2 hrd
  obtain ⟨zn, hzn⟩ : ∃ zn, st.szN op = zn := ⟨_, rfl⟩
  obtain ⟨zs, hzs⟩ : ∃ zs, st.rszS op = zs := ⟨_, rfl⟩
  obtain ⟨fn, hfn⟩ : ∃ fn, (st.pr op.toNat).1 = fn := ⟨_, rfl⟩
  obtain ⟨half, hhalf⟩ : ∃ half, (st.pr op.toNat).2.1 = half := ⟨_, rfl⟩
  rw [hzn, hzs] at HSz
  rw [hfn, hhalf] at HFn
  subst h63
  have HFz := bl.hid (And.intro hfn hhalf)
  clear hfn hhalf hzs hko
  try clear hzn
  go_enter Tryz.func11, Tryz.ntmps11
  go_wp2_with fail
  refine HFe.out.mono ?_
  rintro e w1 ⟨rfl, hb⟩
  obtain ⟨W1, hW1⟩ : ∃ W1, w1.alloc (.cells #[.int .i64 63, .int .i64 rd, .int .i64 k1, .int .i64 k2, .int .i64 im] 71) = W1 := ⟨_, rfl⟩
  have HX := bl.hid (after_fetch w w1 W1 P f s ⟨63, rd, k1, k2, im⟩ HH.out hb hW1)
  obtain ⟨b0, b1, b2, b3, b4, hm⟩ := (HX.out W1 (Below.refl _ _)).cells
  have cpc := hm.pcC
  have c1 := hm.regC k1 hk1
  have c2 := hm.regC k2 hk2
  have fr := frozen_of_row W1 P.p 32 _ _ hm.row
  have hpc := hm.ok.pc
  have hxu := hm.ok.r k1 hk1
  have hyu := hm.ok.r k2 hk2
  obtain ⟨x, hx⟩ : ∃ x, s.r k1 = x := ⟨_, rfl⟩
  obtain ⟨y, hy⟩ : ∃ y, s.r k2 = y := ⟨_, rfl⟩
  obtain ⟨pc, hpe⟩ : ∃ pc, s.pc = pc := ⟨_, rfl⟩
  rw [hpe] at cpc hpc
  rw [hx] at c1 hxu
  rw [hy] at c2 hyu
  have HXe := bl.hid hx
  have HYe := bl.hid hy
  have HPe := bl.hid hpe
  have HXu := bl.hid hxu
  have HYu := bl.hid hyu
  have HPu := bl.hid hpc
  have HM1 := bl.hid hm
  have lw : w.heap.size ≤ w1.heap.size := hb.size
  have lW : W1.heap.size = w1.heap.size + 1 := by rw [← hW1]; exact World.size_alloc _ _
  have p0 := hpc.1
  have p1 := hpc.2
  clear hb hm hx hy hpe hxu hyu hpc
  go_wp2_with fail
  clear hW1
  refine (HSz.out _).mono ?_
  rintro e w2 ⟨rfl, hw⟩
  subst w2
  go_wp2_with fail
  refine (HFn.out _).mono ?_
  rintro e w2 ⟨rfl, hw⟩
  subst w2
  go_wp2
  go_ret
  exact ⟨by rw [← HR.out]; rfl, by rw [← HR.out]; exact HM1.out, But2.of_below (HX.out W1 (Below.refl _ _)).below⟩
set_option maxHeartbeats 3200000 in
theorem rstep_mem (w : World) (P : st.Pl) (f : Nat → Int) (s : st.S) (i : st.In) (h : IsRM w P f s) (hi : st.InOk i) (h11 : 11 ≤ i.op) (h21 : i.op ≤ 21)
    (hF : Calls Tryz.prog 31 #[.pointer (some ⟨P.p, 0, none⟩)] w (FetchPost i 0 w)) :
    Calls Tryz.prog 11 #[.pointer (some ⟨P.p, 0, none⟩)] w (RTurn P f (.int .i64 (st.exec i s).1) (st.exec i s).2 w) := by
  obtain ⟨op, rd, rs1, rs2, im⟩ := i
  have him := hi.im
  have hr1 := hi.rs1
  have hr2 := hi.rs2
  have hrd := hi.rd
  have hio := hi.op
  dsimp only at him hr1 hr2 hrd hio h11 h21
  obtain ⟨k1, hk1⟩ : ∃ k1 : Nat, rs1 = k1 := ⟨rs1.toNat, by omega⟩
  obtain ⟨k2, hk2⟩ : ∃ k2 : Nat, rs2 = k2 := ⟨rs2.toNat, by omega⟩
  obtain ⟨ko, hko⟩ : ∃ ko : Nat, op = ko := ⟨op.toNat, by omega⟩
  subst hk1 hk2
  have hk1 : k1 < 32 := by omega
  have hk2 : k2 < 32 := by omega
  have j0 : (0 : Int) ≤ (k1 : Int) := by omega
  have j1 : (k1 : Int) < 32 := by omega
  have j2 : (0 : Int) ≤ (k2 : Int) := by omega
  have j3 : (k2 : Int) < 32 := by omega
  have HH := bl.hid h
  have HI := bl.hid hi
  have HRd := bl.hid hrd
  have HFe : Hid (Calls Tryz.prog 31 #[.pointer (some ⟨P.p, 0, none⟩)] w fun e w1 => e = .returned (.tuple #[.agg #[.int .i64 op, .int .i64 rd, .int .i64 k1, .int .i64 k2, .int .i64 im], .int .i64 0]) ∧ Below w.heap.size w w1) := bl.hid hF
  have HSz := bl.hid (rsizes_any op)
  have HFn : Hid (∀ w, Calls Tryz.prog 33 #[.int .i64 op] w fun e w' => e = .returned (.tuple #[.int .i64 (st.pr op.toNat).1, .bool (st.pr op.toNat).2.1]) ∧ w' = w) := bl.hid (by rw [hko]; exact fun w => rfunction_any ko (by omega) w)
  obtain ⟨R, hR⟩ : ∃ R, st.exec ⟨op, rd, k1, k2, im⟩ s = R := ⟨_, rfl⟩
  have HR := bl.hid hR
  rw [hR]
  clear h hi hF hR hr1 hr2 hrd
  have e63 : (op == 63) = false := by simp; omega
  have hsz : 0 < st.szN op := by
    have : op = 11 ∨ op = 12 ∨ op = 13 ∨ op = 14 ∨ op = 15 ∨ op = 16 ∨ op = 17 ∨ op = 18 ∨ op = 19 ∨ op = 20 ∨ op = 21 := by omega
    rcases this with rfl | rfl | rfl | rfl | rfl | rfl | rfl | rfl | rfl | rfl | rfl <;> decide
  obtain ⟨zn, hzn⟩ : ∃ zn, st.szN op = zn := ⟨_, rfl⟩
  obtain ⟨zs, hzs⟩ : ∃ zs, st.rszS op = zs := ⟨_, rfl⟩
  obtain ⟨fn, hfn⟩ : ∃ fn, (st.pr op.toNat).1 = fn := ⟨_, rfl⟩
  obtain ⟨half, hhalf⟩ : ∃ half, (st.pr op.toNat).2.1 = half := ⟨_, rfl⟩
  rw [hzn, hzs] at HSz
  rw [hfn, hhalf] at HFn
  rw [hzn] at hsz
  have HFz := bl.hid (And.intro hfn hhalf)
  clear hfn hhalf hzs hko
  try clear hzn
  go_enter Tryz.func11, Tryz.ntmps11
  go_wp2_with fail
  refine HFe.out.mono ?_
  rintro e w1 ⟨rfl, hb⟩
  obtain ⟨W1, hW1⟩ : ∃ W1, w1.alloc (.cells #[.int .i64 op, .int .i64 rd, .int .i64 k1, .int .i64 k2, .int .i64 im] 71) = W1 := ⟨_, rfl⟩
  have HX := bl.hid (after_fetch w w1 W1 P f s ⟨op, rd, k1, k2, im⟩ HH.out hb hW1)
  obtain ⟨b0, b1, b2, b3, b4, hm⟩ := (HX.out W1 (Below.refl _ _)).cells
  have cpc := hm.pcC
  have c1 := hm.regC k1 hk1
  have c2 := hm.regC k2 hk2
  have fr := frozen_of_row W1 P.p 32 _ _ hm.row
  have hpc := hm.ok.pc
  have hxu := hm.ok.r k1 hk1
  have hyu := hm.ok.r k2 hk2
  obtain ⟨x, hx⟩ : ∃ x, s.r k1 = x := ⟨_, rfl⟩
  obtain ⟨y, hy⟩ : ∃ y, s.r k2 = y := ⟨_, rfl⟩
  obtain ⟨pc, hpe⟩ : ∃ pc, s.pc = pc := ⟨_, rfl⟩
  rw [hpe] at cpc hpc
  rw [hx] at c1 hxu
  rw [hy] at c2 hyu
  have HXe := bl.hid hx
  have HYe := bl.hid hy
  have HPe := bl.hid hpe
  have HXu := bl.hid hxu
  have HYu := bl.hid hyu
  have HPu := bl.hid hpc
  have HM1 := bl.hid hm
  have lw : w.heap.size ≤ w1.heap.size := hb.size
  have lW : W1.heap.size = w1.heap.size + 1 := by rw [← hW1]; exact World.size_alloc _ _
  have p0 := hpc.1
  have p1 := hpc.2
  clear hb hm hx hy hpe hxu hyu hpc
  go_wp2_with fail
  clear hW1
  refine (HSz.out _).mono ?_
  rintro e w2 ⟨rfl, hw⟩
  subst w2
  go_wp2_with fail
  refine (HFn.out _).mono ?_
  rintro e w2 ⟨rfl, hw⟩
  subst w2
  have HMm : Hid (Calls Tryz.prog 34 #[.pointer (some ⟨P.p, 0, none⟩), .agg #[.int .i64 op, .int .i64 rd, .int .i64 k1, .int .i64 k2, .int .i64 im]] W1 (RTurn P f (.int .i64 R.1) R.2 W1)) := bl.hid (by
    rw [← HR.out]
    unfold st.exec
    by_cases h17 : op ≤ 17
    · rw [if_neg (by show ¬ (op ≤ 2); omega), if_neg (by show ¬ (op ≤ 4); omega), if_neg (by show ¬ (op ≤ 10); omega), if_pos h17]
      exact rload_ex W1 P f s ⟨op, rd, k1, k2, im⟩ HM1.out HI.out h11 h17
    · rw [if_neg (by show ¬ (op ≤ 2); omega), if_neg (by show ¬ (op ≤ 4); omega), if_neg (by show ¬ (op ≤ 10); omega), if_neg h17, if_pos h21]
      exact rstore_ex W1 P f s ⟨op, rd, k1, k2, im⟩ HM1.out HI.out (by show 18 ≤ op; omega) h21)
  go_wp2_with fail
  refine HMm.out.mono ?_
  rintro e w2 ⟨rfl, m1, m2⟩
  have M1 := bl.hid m1
  have M2 := bl.hid m2
  clear m1 m2
  go_wp2
  go_ret
  exact ⟨rfl, M1.out, (But2.of_below (HX.out W1 (Below.refl _ _)).below).trans M2.out⟩
set_option maxHeartbeats 3200000 in
theorem rstep_jumps (w : World) (P : st.Pl) (f : Nat → Int) (s : st.S) (i : st.In) (h : IsRM w P f s) (hi : st.InOk i) (h3 : 3 ≤ i.op) (h10 : i.op ≤ 10)
    (hF : Calls Tryz.prog 31 #[.pointer (some ⟨P.p, 0, none⟩)] w (FetchPost i 0 w)) :
    Calls Tryz.prog 11 #[.pointer (some ⟨P.p, 0, none⟩)] w (RTurn P f (.int .i64 (st.exec i s).1) (st.exec i s).2 w) := by
  obtain ⟨op, rd, rs1, rs2, im⟩ := i
  have him := hi.im
  have hr1 := hi.rs1
  have hr2 := hi.rs2
  have hrd := hi.rd
  have hio := hi.op
  dsimp only at him hr1 hr2 hrd hio h3 h10
  obtain ⟨k1, hk1⟩ : ∃ k1 : Nat, rs1 = k1 := ⟨rs1.toNat, by omega⟩
  obtain ⟨k2, hk2⟩ : ∃ k2 : Nat, rs2 = k2 := ⟨rs2.toNat, by omega⟩
  obtain ⟨ko, hko⟩ : ∃ ko : Nat, op = ko := ⟨op.toNat, by omega⟩
  subst hk1 hk2
  have hk1 : k1 < 32 := by omega
  have hk2 : k2 < 32 := by omega
  have j0 : (0 : Int) ≤ (k1 : Int) := by omega
  have j1 : (k1 : Int) < 32 := by omega
  have j2 : (0 : Int) ≤ (k2 : Int) := by omega
  have j3 : (k2 : Int) < 32 := by omega
  have HH := bl.hid h
  have HI := bl.hid hi
  have HRd := bl.hid hrd
  have HFe : Hid (Calls Tryz.prog 31 #[.pointer (some ⟨P.p, 0, none⟩)] w fun e w1 => e = .returned (.tuple #[.agg #[.int .i64 op, .int .i64 rd, .int .i64 k1, .int .i64 k2, .int .i64 im], .int .i64 0]) ∧ Below w.heap.size w w1) := bl.hid hF
  have HSz := bl.hid (rsizes_any op)
  have HFn : Hid (∀ w, Calls Tryz.prog 33 #[.int .i64 op] w fun e w' => e = .returned (.tuple #[.int .i64 (st.pr op.toNat).1, .bool (st.pr op.toNat).2.1]) ∧ w' = w) := bl.hid (by rw [hko]; exact fun w => rfunction_any ko (by omega) w)
  obtain ⟨R, hR⟩ : ∃ R, st.exec ⟨op, rd, k1, k2, im⟩ s = R := ⟨_, rfl⟩
  have HR := bl.hid hR
  rw [hR]
  clear h hi hF hR hr1 hr2 hrd
  have e63 : (op == 63) = false := by simp; omega
  have hsz : st.szN op = 0 := by unfold st.szN; rw [if_neg (by omega), if_neg (by omega), if_neg (by omega), if_neg (by omega)]
  obtain ⟨zn, hzn⟩ : ∃ zn, st.szN op = zn := ⟨_, rfl⟩
  obtain ⟨zs, hzs⟩ : ∃ zs, st.rszS op = zs := ⟨_, rfl⟩
  obtain ⟨fn, hfn⟩ : ∃ fn, (st.pr op.toNat).1 = fn := ⟨_, rfl⟩
  obtain ⟨half, hhalf⟩ : ∃ half, (st.pr op.toNat).2.1 = half := ⟨_, rfl⟩
  rw [hzn, hzs] at HSz
  rw [hfn, hhalf] at HFn
  rw [hsz] at hzn
  subst hzn
  have HFz := bl.hid (And.intro hfn hhalf)
  clear hfn hhalf hzs hko
  try clear hzn
  go_enter Tryz.func11, Tryz.ntmps11
  go_wp2_with fail
  refine HFe.out.mono ?_
  rintro e w1 ⟨rfl, hb⟩
  obtain ⟨W1, hW1⟩ : ∃ W1, w1.alloc (.cells #[.int .i64 op, .int .i64 rd, .int .i64 k1, .int .i64 k2, .int .i64 im] 71) = W1 := ⟨_, rfl⟩
  have HX := bl.hid (after_fetch w w1 W1 P f s ⟨op, rd, k1, k2, im⟩ HH.out hb hW1)
  obtain ⟨b0, b1, b2, b3, b4, hm⟩ := (HX.out W1 (Below.refl _ _)).cells
  have cpc := hm.pcC
  have c1 := hm.regC k1 hk1
  have c2 := hm.regC k2 hk2
  have fr := frozen_of_row W1 P.p 32 _ _ hm.row
  have hpc := hm.ok.pc
  have hxu := hm.ok.r k1 hk1
  have hyu := hm.ok.r k2 hk2
  obtain ⟨x, hx⟩ : ∃ x, s.r k1 = x := ⟨_, rfl⟩
  obtain ⟨y, hy⟩ : ∃ y, s.r k2 = y := ⟨_, rfl⟩
  obtain ⟨pc, hpe⟩ : ∃ pc, s.pc = pc := ⟨_, rfl⟩
  rw [hpe] at cpc hpc
  rw [hx] at c1 hxu
  rw [hy] at c2 hyu
  have HXe := bl.hid hx
  have HYe := bl.hid hy
  have HPe := bl.hid hpe
  have HXu := bl.hid hxu
  have HYu := bl.hid hyu
  have HPu := bl.hid hpc
  have HM1 := bl.hid hm
  have lw : w.heap.size ≤ w1.heap.size := hb.size
  have lW : W1.heap.size = w1.heap.size + 1 := by rw [← hW1]; exact World.size_alloc _ _
  have p0 := hpc.1
  have p1 := hpc.2
  clear hb hm hx hy hpe hxu hyu hpc
  go_wp2_with fail
  clear hW1
  refine (HSz.out _).mono ?_
  rintro e w2 ⟨rfl, hw⟩
  subst w2
  go_wp2_with fail
  refine (HFn.out _).mono ?_
  rintro e w2 ⟨rfl, hw⟩
  subst w2
  have HMm : Hid (Calls Tryz.prog 35 #[.pointer (some ⟨P.p, 0, none⟩), .agg #[.int .i64 op, .int .i64 rd, .int .i64 k1, .int .i64 k2, .int .i64 im]] W1 (RTurn P f (.tuple #[]) R.2 W1)) := bl.hid (by
    have := rjumps_any W1 P f s ⟨op, rd, k1, k2, im⟩ HM1.out HI.out h3 h10
    have e : R.2 = if (⟨op, rd, k1, k2, im⟩ : st.In).op ≤ 4 then st.exJump ⟨op, rd, k1, k2, im⟩ s else st.exBranch ⟨op, rd, k1, k2, im⟩ s := by
      rw [← HR.out]
      unfold st.exec
      rw [if_neg (by show ¬ (op ≤ 2); omega)]
      by_cases h4 : op ≤ 4
      · rw [if_pos h4, if_pos h4]
      · rw [if_neg h4, if_neg h4, if_pos h10]
    rw [e]
    exact this)
  have HR1 : Hid (R.1 = 0) := bl.hid (by
    rw [← HR.out]
    unfold st.exec
    rw [if_neg (by show ¬ (op ≤ 2); omega)]
    by_cases h4 : op ≤ 4
    · rw [if_pos h4]
    · rw [if_neg h4, if_pos h10])
  go_wp2_with fail
  refine HMm.out.mono ?_
  rintro e w2 ⟨rfl, m1, m2⟩
  have M1 := bl.hid m1
  have M2 := bl.hid m2
  clear m1 m2
  go_wp2
  go_ret
  exact ⟨by rw [HR1.out]; rfl, M1.out, (But2.of_below (HX.out W1 (Below.refl _ _)).below).trans M2.out⟩
set_option maxHeartbeats 3200000 in
theorem rstep_lui (w : World) (P : st.Pl) (f : Nat → Int) (s : st.S) (i : st.In) (h : IsRM w P f s) (hi : st.InOk i) (h1 : i.op = 1)
    (hF : Calls Tryz.prog 31 #[.pointer (some ⟨P.p, 0, none⟩)] w (FetchPost i 0 w)) :
    Calls Tryz.prog 11 #[.pointer (some ⟨P.p, 0, none⟩)] w (RTurn P f (.int .i64 (st.exec i s).1) (st.exec i s).2 w) := by
  obtain ⟨op, rd, rs1, rs2, im⟩ := i
  have him := hi.im
  have hr1 := hi.rs1
  have hr2 := hi.rs2
  have hrd := hi.rd
  have hio := hi.op
  dsimp only at him hr1 hr2 hrd hio h1
  obtain ⟨k1, hk1⟩ : ∃ k1 : Nat, rs1 = k1 := ⟨rs1.toNat, by omega⟩
  obtain ⟨k2, hk2⟩ : ∃ k2 : Nat, rs2 = k2 := ⟨rs2.toNat, by omega⟩
  obtain ⟨ko, hko⟩ : ∃ ko : Nat, op = ko := ⟨op.toNat, by omega⟩
  subst hk1 hk2
  have hk1 : k1 < 32 := by omega
  have hk2 : k2 < 32 := by omega
  have j0 : (0 : Int) ≤ (k1 : Int) := by omega
  have j1 : (k1 : Int) < 32 := by omega
  have j2 : (0 : Int) ≤ (k2 : Int) := by omega
  have j3 : (k2 : Int) < 32 := by omega
  have HH := bl.hid h
  have HI := bl.hid hi
  have HRd := bl.hid hrd
  have HFe : Hid (Calls Tryz.prog 31 #[.pointer (some ⟨P.p, 0, none⟩)] w fun e w1 => e = .returned (.tuple #[.agg #[.int .i64 op, .int .i64 rd, .int .i64 k1, .int .i64 k2, .int .i64 im], .int .i64 0]) ∧ Below w.heap.size w w1) := bl.hid hF
  have HSz := bl.hid (rsizes_any op)
  have HFn : Hid (∀ w, Calls Tryz.prog 33 #[.int .i64 op] w fun e w' => e = .returned (.tuple #[.int .i64 (st.pr op.toNat).1, .bool (st.pr op.toNat).2.1]) ∧ w' = w) := bl.hid (by rw [hko]; exact fun w => rfunction_any ko (by omega) w)
  obtain ⟨R, hR⟩ : ∃ R, st.exec ⟨op, rd, k1, k2, im⟩ s = R := ⟨_, rfl⟩
  have HR := bl.hid hR
  rw [hR]
  clear h hi hF hR hr1 hr2 hrd
  obtain ⟨zn, hzn⟩ : ∃ zn, st.szN op = zn := ⟨_, rfl⟩
  obtain ⟨zs, hzs⟩ : ∃ zs, st.rszS op = zs := ⟨_, rfl⟩
  obtain ⟨fn, hfn⟩ : ∃ fn, (st.pr op.toNat).1 = fn := ⟨_, rfl⟩
  obtain ⟨half, hhalf⟩ : ∃ half, (st.pr op.toNat).2.1 = half := ⟨_, rfl⟩
  rw [hzn, hzs] at HSz
  rw [hfn, hhalf] at HFn
  subst h1
  have hsz : st.szN 1 = 0 := by decide
  rw [hsz] at hzn
  subst hzn
  have HFz := bl.hid (And.intro hfn hhalf)
  clear hfn hhalf hzs hko
  try clear hzn
  go_enter Tryz.func11, Tryz.ntmps11
  go_wp2_with fail
  refine HFe.out.mono ?_
  rintro e w1 ⟨rfl, hb⟩
  obtain ⟨W1, hW1⟩ : ∃ W1, w1.alloc (.cells #[.int .i64 1, .int .i64 rd, .int .i64 k1, .int .i64 k2, .int .i64 im] 71) = W1 := ⟨_, rfl⟩
  have HX := bl.hid (after_fetch w w1 W1 P f s ⟨1, rd, k1, k2, im⟩ HH.out hb hW1)
  obtain ⟨b0, b1, b2, b3, b4, hm⟩ := (HX.out W1 (Below.refl _ _)).cells
  have cpc := hm.pcC
  have c1 := hm.regC k1 hk1
  have c2 := hm.regC k2 hk2
  have fr := frozen_of_row W1 P.p 32 _ _ hm.row
  have hpc := hm.ok.pc
  have hxu := hm.ok.r k1 hk1
  have hyu := hm.ok.r k2 hk2
  obtain ⟨x, hx⟩ : ∃ x, s.r k1 = x := ⟨_, rfl⟩
  obtain ⟨y, hy⟩ : ∃ y, s.r k2 = y := ⟨_, rfl⟩
  obtain ⟨pc, hpe⟩ : ∃ pc, s.pc = pc := ⟨_, rfl⟩
  rw [hpe] at cpc hpc
  rw [hx] at c1 hxu
  rw [hy] at c2 hyu
  have HXe := bl.hid hx
  have HYe := bl.hid hy
  have HPe := bl.hid hpe
  have HXu := bl.hid hxu
  have HYu := bl.hid hyu
  have HPu := bl.hid hpc
  have HM1 := bl.hid hm
  have lw : w.heap.size ≤ w1.heap.size := hb.size
  have lW : W1.heap.size = w1.heap.size + 1 := by rw [← hW1]; exact World.size_alloc _ _
  have p0 := hpc.1
  have p1 := hpc.2
  clear hb hm hx hy hpe hxu hyu hpc
  go_wp2_with fail
  clear hW1
  refine (HSz.out _).mono ?_
  rintro e w2 ⟨rfl, hw⟩
  subst w2
  go_wp2_with fail
  refine (HFn.out _).mono ?_
  rintro e w2 ⟨rfl, hw⟩
  subst w2
  have HEx : Hid (st.exec ⟨1, rd, k1, k2, im⟩ s = (0, (s.put rd (IntKind.u64.wrap (IntKind.u64.wrap im * 4096))).nxt)) := bl.hid (by
    simp only [wrap_u]
    rfl)
  have HV : Hid (st.isU (IntKind.u64.wrap (IntKind.u64.wrap im * 4096))) := bl.hid (by rw [wrap_u]; exact st.u64_isU _)
  obtain ⟨V, hV⟩ : ∃ V, IntKind.u64.wrap (IntKind.u64.wrap im * 4096) = V := ⟨_, rfl⟩
  rw [hV] at HEx HV
  have HPt := bl.hid (rsput_any W1 P f s rd V HM1.out HRd.out HV.out)
  go_wp2_with fail
  refine HPt.out.mono ?_
  rintro e w4 ⟨rfl, m1, m2⟩
  have c4 := m1.pcC
  have fr4 := frozen_of_row w4 P.p 32 _ _ m1.row
  have HN4 := bl.hid m1.nxt
  have M2 := bl.hid m2
  have epc : (s.put rd V).pc = pc := by rw [← HPe.out]; unfold st.S.put; split <;> rfl
  rw [epc] at c4
  have EPc := bl.hid epc
  clear m1 m2 epc
  go_wp2
  go_ret
  obtain ⟨n1, n2⟩ := HN4.out _ (by rw [EPc.out])
  refine ⟨?_, ?_, (But2.of_below (HX.out W1 (Below.refl _ _)).below).trans (M2.out.trans n2)⟩
  · rw [← HR.out, HEx.out]; rfl
  · rw [← HR.out, HEx.out]; exact n1
set_option maxHeartbeats 3200000 in
theorem rstep_auipc (w : World) (P : st.Pl) (f : Nat → Int) (s : st.S) (i : st.In) (h : IsRM w P f s) (hi : st.InOk i) (h1 : i.op = 2)
    (hF : Calls Tryz.prog 31 #[.pointer (some ⟨P.p, 0, none⟩)] w (FetchPost i 0 w)) :
    Calls Tryz.prog 11 #[.pointer (some ⟨P.p, 0, none⟩)] w (RTurn P f (.int .i64 (st.exec i s).1) (st.exec i s).2 w) := by
  obtain ⟨op, rd, rs1, rs2, im⟩ := i
  have him := hi.im
  have hr1 := hi.rs1
  have hr2 := hi.rs2
  have hrd := hi.rd
  have hio := hi.op
  dsimp only at him hr1 hr2 hrd hio h1
  obtain ⟨k1, hk1⟩ : ∃ k1 : Nat, rs1 = k1 := ⟨rs1.toNat, by omega⟩
  obtain ⟨k2, hk2⟩ : ∃ k2 : Nat, rs2 = k2 := ⟨rs2.toNat, by omega⟩
  obtain ⟨ko, hko⟩ : ∃ ko : Nat, op = ko := ⟨op.toNat, by omega⟩
  subst hk1 hk2
  have hk1 : k1 < 32 := by omega
  have hk2 : k2 < 32 := by omega
  have j0 : (0 : Int) ≤ (k1 : Int) := by omega
  have j1 : (k1 : Int) < 32 := by omega
  have j2 : (0 : Int) ≤ (k2 : Int) := by omega
  have j3 : (k2 : Int) < 32 := by omega
  have HH := bl.hid h
  have HI := bl.hid hi
  have HRd := bl.hid hrd
  have HFe : Hid (Calls Tryz.prog 31 #[.pointer (some ⟨P.p, 0, none⟩)] w fun e w1 => e = .returned (.tuple #[.agg #[.int .i64 op, .int .i64 rd, .int .i64 k1, .int .i64 k2, .int .i64 im], .int .i64 0]) ∧ Below w.heap.size w w1) := bl.hid hF
  have HSz := bl.hid (rsizes_any op)
  have HFn : Hid (∀ w, Calls Tryz.prog 33 #[.int .i64 op] w fun e w' => e = .returned (.tuple #[.int .i64 (st.pr op.toNat).1, .bool (st.pr op.toNat).2.1]) ∧ w' = w) := bl.hid (by rw [hko]; exact fun w => rfunction_any ko (by omega) w)
  obtain ⟨R, hR⟩ : ∃ R, st.exec ⟨op, rd, k1, k2, im⟩ s = R := ⟨_, rfl⟩
  have HR := bl.hid hR
  rw [hR]
  clear h hi hF hR hr1 hr2 hrd
  obtain ⟨zn, hzn⟩ : ∃ zn, st.szN op = zn := ⟨_, rfl⟩
  obtain ⟨zs, hzs⟩ : ∃ zs, st.rszS op = zs := ⟨_, rfl⟩
  obtain ⟨fn, hfn⟩ : ∃ fn, (st.pr op.toNat).1 = fn := ⟨_, rfl⟩
  obtain ⟨half, hhalf⟩ : ∃ half, (st.pr op.toNat).2.1 = half := ⟨_, rfl⟩
  rw [hzn, hzs] at HSz
  rw [hfn, hhalf] at HFn
  subst h1
  have hsz : st.szN 2 = 0 := by decide
  rw [hsz] at hzn
  subst hzn
  have HFz := bl.hid (And.intro hfn hhalf)
  clear hfn hhalf hzs hko
  try clear hzn
  go_enter Tryz.func11, Tryz.ntmps11
  go_wp2_with fail
  refine HFe.out.mono ?_
  rintro e w1 ⟨rfl, hb⟩
  obtain ⟨W1, hW1⟩ : ∃ W1, w1.alloc (.cells #[.int .i64 2, .int .i64 rd, .int .i64 k1, .int .i64 k2, .int .i64 im] 71) = W1 := ⟨_, rfl⟩
  have HX := bl.hid (after_fetch w w1 W1 P f s ⟨2, rd, k1, k2, im⟩ HH.out hb hW1)
  obtain ⟨b0, b1, b2, b3, b4, hm⟩ := (HX.out W1 (Below.refl _ _)).cells
  have cpc := hm.pcC
  have c1 := hm.regC k1 hk1
  have c2 := hm.regC k2 hk2
  have fr := frozen_of_row W1 P.p 32 _ _ hm.row
  have hpc := hm.ok.pc
  have hxu := hm.ok.r k1 hk1
  have hyu := hm.ok.r k2 hk2
  obtain ⟨x, hx⟩ : ∃ x, s.r k1 = x := ⟨_, rfl⟩
  obtain ⟨y, hy⟩ : ∃ y, s.r k2 = y := ⟨_, rfl⟩
  obtain ⟨pc, hpe⟩ : ∃ pc, s.pc = pc := ⟨_, rfl⟩
  rw [hpe] at cpc hpc
  rw [hx] at c1 hxu
  rw [hy] at c2 hyu
  have HXe := bl.hid hx
  have HYe := bl.hid hy
  have HPe := bl.hid hpe
  have HXu := bl.hid hxu
  have HYu := bl.hid hyu
  have HPu := bl.hid hpc
  have HM1 := bl.hid hm
  have lw : w.heap.size ≤ w1.heap.size := hb.size
  have lW : W1.heap.size = w1.heap.size + 1 := by rw [← hW1]; exact World.size_alloc _ _
  have p0 := hpc.1
  have p1 := hpc.2
  clear hb hm hx hy hpe hxu hyu hpc
  go_wp2_with fail
  clear hW1
  refine (HSz.out _).mono ?_
  rintro e w2 ⟨rfl, hw⟩
  subst w2
  go_wp2_with fail
  refine (HFn.out _).mono ?_
  rintro e w2 ⟨rfl, hw⟩
  subst w2
  have HEx : Hid (st.exec ⟨2, rd, k1, k2, im⟩ s = (0, (s.put rd (IntKind.u64.wrap (pc + IntKind.u64.wrap (IntKind.u64.wrap im * 4096)))).nxt)) := bl.hid (by
    simp only [wrap_u]
    rw [← HPe.out, Int.add_comm]
    rfl)
  have HV : Hid (st.isU (IntKind.u64.wrap (pc + IntKind.u64.wrap (IntKind.u64.wrap im * 4096)))) := bl.hid (by rw [wrap_u]; exact st.u64_isU _)
  obtain ⟨V, hV⟩ : ∃ V, IntKind.u64.wrap (pc + IntKind.u64.wrap (IntKind.u64.wrap im * 4096)) = V := ⟨_, rfl⟩
  rw [hV] at HEx HV
  have HB1 : Hid (∀ n, Below W1.heap.size W1 (W1.drewN n)) := bl.hid (fun n => (Below.refl _ _).drewN' n)
  have HPt : Hid (Calls Tryz.prog 15 #[.pointer (some ⟨P.p, 0, none⟩), .int .i64 rd, .int .u64 V] W1.drew (fun e w4 => e = .returned (.int .i64 0) ∧ IsRM w4 P f (s.put rd V) ∧ But2 P.p P.g W1 w4 ∧ w4.cell? ⟨P.p, 32, none⟩ = some (.int .u64 pc) ∧ w4.cell? ⟨w1.heap.size, 1, none⟩ = some (.int .i64 rd) ∧ w4.cell? ⟨w1.heap.size, 4, none⟩ = some (.int .i64 im))) := bl.hid ((rsput_any W1.drew P f s rd V (HX.out _ (HB1.out 1)).m HRd.out HV.out).mono (fun e w4 q => by
    obtain ⟨q1, q2, q3⟩ := q
    have hb2 : But2 P.p P.g W1 w4 := (But2.of_below (HB1.out 1)).trans q3
    have l1 := HH.out.lt
    have l2 := HH.out.mem.lt.2
    have hr := (hb2.block w1.heap.size (by omega) (by omega) (by omega)).trans (HX.out W1 (Below.refl _ _)).row
    have epc : (s.put rd V).pc = pc := by rw [← HPe.out]; unfold st.S.put; split <;> rfl
    refine ⟨q1, q2, hb2, ?_, (cell_of_row _ _ _ _ _ _ hr).trans rfl, (cell_of_row _ _ _ _ _ _ hr).trans rfl⟩
    rw [← epc]
    exact q2.pcC))
  have e32 : w1.heap.size ≠ P.p := by have := HH.out.lt; omega
  go_wp2
  go_region_held3 (fun w' => w'.cell? ⟨P.p, 32, none⟩ = some (.int .u64 pc) ∧ w'.cell? ⟨w1.heap.size, 1, none⟩ = some (.int .i64 rd) ∧ w'.cell? ⟨w1.heap.size, 4, none⟩ = some (.int .i64 im)) ((first | with_reducible assumption | go_keep))
    ((first
      | (go_at_call 15; with_reducible refine HPt.out.mono ?_; rintro e w4 ⟨rfl, m1, m2, y0, y1, y2⟩; have M1 := bl.hid m1; have M2 := bl.hid m2; clear m1 m2)))
  have fr4 := frozen_of_row w4 P.p 32 _ _ M1.out.row
  have HN4 := bl.hid M1.out.nxt
  have EPc : Hid ((s.put rd V).pc = pc) := bl.hid (by rw [← HPe.out]; unfold st.S.put; split <;> rfl)
  go_wp2
  go_ret
  obtain ⟨n1, n2⟩ := HN4.out _ (by rw [EPc.out])
  refine ⟨?_, ?_, (But2.of_below (HX.out W1 (Below.refl _ _)).below).trans (M2.out.trans n2)⟩
  · rw [← HR.out, HEx.out]; rfl
  · rw [← HR.out, HEx.out]; exact n1
set_option maxHeartbeats 3200000 in
theorem rstep_pair (w : World) (P : st.Pl) (f : Nat → Int) (s : st.S) (i : st.In) (h : IsRM w P f s) (hi : st.InOk i) (h22 : 22 ≤ i.op) (h62 : i.op ≤ 62)
    (hF : Calls Tryz.prog 31 #[.pointer (some ⟨P.p, 0, none⟩)] w (FetchPost i 0 w)) :
    Calls Tryz.prog 11 #[.pointer (some ⟨P.p, 0, none⟩)] w (RTurn P f (.int .i64 (st.exec i s).1) (st.exec i s).2 w) := by
  obtain ⟨op, rd, rs1, rs2, im⟩ := i
  have him := hi.im
  have hr1 := hi.rs1
  have hr2 := hi.rs2
  have hrd := hi.rd
  have hio := hi.op
  dsimp only at him hr1 hr2 hrd hio h22 h62
  obtain ⟨k1, hk1⟩ : ∃ k1 : Nat, rs1 = k1 := ⟨rs1.toNat, by omega⟩
  obtain ⟨k2, hk2⟩ : ∃ k2 : Nat, rs2 = k2 := ⟨rs2.toNat, by omega⟩
  obtain ⟨ko, hko⟩ : ∃ ko : Nat, op = ko := ⟨op.toNat, by omega⟩
  subst hk1 hk2
  have hk1 : k1 < 32 := by omega
  have hk2 : k2 < 32 := by omega
  have j0 : (0 : Int) ≤ (k1 : Int) := by omega
  have j1 : (k1 : Int) < 32 := by omega
  have j2 : (0 : Int) ≤ (k2 : Int) := by omega
  have j3 : (k2 : Int) < 32 := by omega
  have HH := bl.hid h
  have HI := bl.hid hi
  have HRd := bl.hid hrd
  have HFe : Hid (Calls Tryz.prog 31 #[.pointer (some ⟨P.p, 0, none⟩)] w fun e w1 => e = .returned (.tuple #[.agg #[.int .i64 op, .int .i64 rd, .int .i64 k1, .int .i64 k2, .int .i64 im], .int .i64 0]) ∧ Below w.heap.size w w1) := bl.hid hF
  have HSz := bl.hid (rsizes_any op)
  have HFn : Hid (∀ w, Calls Tryz.prog 33 #[.int .i64 op] w fun e w' => e = .returned (.tuple #[.int .i64 (st.pr op.toNat).1, .bool (st.pr op.toNat).2.1]) ∧ w' = w) := bl.hid (by rw [hko]; exact fun w => rfunction_any ko (by omega) w)
  obtain ⟨R, hR⟩ : ∃ R, st.exec ⟨op, rd, k1, k2, im⟩ s = R := ⟨_, rfl⟩
  have HR := bl.hid hR
  rw [hR]
  clear h hi hF hR hr1 hr2 hrd
  have e63 : (op == 63) = false := by simp; omega
  have e1 : (op == 1) = false := by simp; omega
  have e2 : (op == 2) = false := by simp; omega
  have e3 : decide (3 ≤ op) = true := decide_eq_true (by omega)
  have e10 : decide (op ≤ 10) = false := decide_eq_false (by omega)
  have hsz : st.szN op = 0 := by unfold st.szN; rw [if_neg (by omega), if_neg (by omega), if_neg (by omega), if_neg (by omega)]
  have HFo : Hid (∀ w, Calls Tryz.prog 36 #[.int .i64 op] w fun e w' => e = .returned (.string (rv.row op.toNat).form) ∧ Below w.heap.size w w') := bl.hid (fun w => by
    have := rform_any op w
    have e : rv.rowI op = rv.row op.toNat := by
      unfold rv.rowI
      rw [if_pos (by unfold rv.is; exact decide_eq_true (by omega))]
    rwa [e] at this)
  have HFm := st.pr_form op.toNat (by omega) (by omega)
  obtain ⟨form, hform⟩ : ∃ form, (rv.row op.toNat).form = form := ⟨_, rfl⟩
  obtain ⟨imm, himm⟩ : ∃ imm, (st.pr op.toNat).2.2 = imm := ⟨_, rfl⟩
  rw [hform] at HFo HFm
  rw [himm] at HFm
  have hf2 : (form.toList == [82]) = !imm := HFm
  have HIm := bl.hid himm
  clear hform himm HFm
  obtain ⟨zn, hzn⟩ : ∃ zn, st.szN op = zn := ⟨_, rfl⟩
  obtain ⟨zs, hzs⟩ : ∃ zs, st.rszS op = zs := ⟨_, rfl⟩
  obtain ⟨fn, hfn⟩ : ∃ fn, (st.pr op.toNat).1 = fn := ⟨_, rfl⟩
  obtain ⟨half, hhalf⟩ : ∃ half, (st.pr op.toNat).2.1 = half := ⟨_, rfl⟩
  rw [hzn, hzs] at HSz
  rw [hfn, hhalf] at HFn
  rw [hsz] at hzn
  subst hzn
  have HFz := bl.hid (And.intro hfn hhalf)
  clear hfn hhalf hzs hko
  try clear hzn
  go_enter Tryz.func11, Tryz.ntmps11
  go_wp2_with fail
  refine HFe.out.mono ?_
  rintro e w1 ⟨rfl, hb⟩
  obtain ⟨W1, hW1⟩ : ∃ W1, w1.alloc (.cells #[.int .i64 op, .int .i64 rd, .int .i64 k1, .int .i64 k2, .int .i64 im] 71) = W1 := ⟨_, rfl⟩
  have HX := bl.hid (after_fetch w w1 W1 P f s ⟨op, rd, k1, k2, im⟩ HH.out hb hW1)
  obtain ⟨b0, b1, b2, b3, b4, hm⟩ := (HX.out W1 (Below.refl _ _)).cells
  have cpc := hm.pcC
  have c1 := hm.regC k1 hk1
  have c2 := hm.regC k2 hk2
  have fr := frozen_of_row W1 P.p 32 _ _ hm.row
  have hpc := hm.ok.pc
  have hxu := hm.ok.r k1 hk1
  have hyu := hm.ok.r k2 hk2
  obtain ⟨x, hx⟩ : ∃ x, s.r k1 = x := ⟨_, rfl⟩
  obtain ⟨y, hy⟩ : ∃ y, s.r k2 = y := ⟨_, rfl⟩
  obtain ⟨pc, hpe⟩ : ∃ pc, s.pc = pc := ⟨_, rfl⟩
  rw [hpe] at cpc hpc
  rw [hx] at c1 hxu
  rw [hy] at c2 hyu
  have HXe := bl.hid hx
  have HYe := bl.hid hy
  have HPe := bl.hid hpe
  have HXu := bl.hid hxu
  have HYu := bl.hid hyu
  have HPu := bl.hid hpc
  have HM1 := bl.hid hm
  have lw : w.heap.size ≤ w1.heap.size := hb.size
  have lW : W1.heap.size = w1.heap.size + 1 := by rw [← hW1]; exact World.size_alloc _ _
  have p0 := hpc.1
  have p1 := hpc.2
  clear hb hm hx hy hpe hxu hyu hpc
  go_wp2_with fail
  clear hW1
  refine (HSz.out _).mono ?_
  rintro e w2 ⟨rfl, hw⟩
  subst w2
  go_wp2_with fail
  refine (HFn.out _).mono ?_
  rintro e w2 ⟨rfl, hw⟩
  subst w2
  have HB1 : Hid (∀ n, Below W1.heap.size W1 (W1.drewN n)) := bl.hid (fun n => (Below.refl _ _).drewN' n)
  have HEx : Hid (∀ T, (imm = true → T = st.u64 im) → (imm = false → T = y) → st.exec ⟨op, rd, k1, k2, im⟩ s = (0, (s.put rd (if half then wd.halfV fn x T else wd.doV fn x T)).nxt)) := bl.hid (fun T h1 h2 => by
    unfold st.exec
    rw [if_neg (by show ¬ (op ≤ 2); omega), if_neg (by show ¬ (op ≤ 4); omega), if_neg (by show ¬ (op ≤ 10); omega), if_neg (by show ¬ (op ≤ 17); omega), if_neg (by show ¬ (op ≤ 21); omega), if_pos (by show op ≤ 62; omega)]
    unfold st.exPair st.prV st.prT st.S.rg
    dsimp only
    rw [Int.toNat_natCast, Int.toNat_natCast, HFz.out.1, HFz.out.2, HIm.out, HXe.out, HYe.out]
    cases imm
    · rw [h2 rfl]; rfl
    · rw [h1 rfl]; rfl)
  go_wp2
  go_quiet (fail)
  go_wp2_with fail
  refine (HFo.out _).mono ?_
  rintro e w2 ⟨rfl, hb⟩
  have hbW : Below W1.heap.size W1 w2 := (HB1.out _).trans (hb.mono (HB1.out _).size)
  have HX2 : Hid (∀ wx, Below w2.heap.size w2 wx → RBox w wx P f s w1.heap.size ⟨op, rd, k1, k2, im⟩) := bl.hid (fun wx hx => HX.out wx (hbW.trans (hx.mono hbW.size)))
  obtain ⟨a0, a1, a2, a3, a4, hm2⟩ := (HX2.out w2 (Below.refl _ _)).cells
  have q1 := hm2.regC k1 hk1
  rw [HXe.out] at q1
  have HB2 : Hid (∀ n, Below w2.heap.size w2 (w2.drewN n)) := bl.hid (fun n => (Below.refl _ _).drewN' n)
  clear b0 b1 b2 b3 b4 c1 c2 cpc fr hb hbW hm2
  have HCl : Hid (∀ n V, st.isU V → Calls Tryz.prog 15 #[.pointer (some ⟨P.p, 0, none⟩), .int .i64 rd, .int .u64 V] (w2.drewN n) (fun e w4 => e = .returned (.int .i64 0) ∧ IsRM w4 P f (s.put rd V) ∧ But2 P.p P.g w w4 ∧ (s.put rd V).pc = pc)) := bl.hid (fun n V hV => (rsput_any (w2.drewN n) P f s rd V (HX2.out _ (HB2.out n)).m HRd.out hV).mono (fun e w4 q => ⟨q.1, q.2.1, (But2.of_below (HX2.out _ (HB2.out n)).below).trans q.2.2, by rw [← HPe.out]; unfold st.S.put; split <;> rfl⟩))
  have HDo : Hid (∀ T wx, st.isU T → Calls Tryz.prog 37 #[.int .i64 fn, .int .u64 x, .int .u64 T] wx fun e w' => e = .returned (.tuple #[.int .u64 (wd.doV fn x T), .int .i64 (wd.doE fn)]) ∧ wx = w') := bl.hid (fun T wx hT => rdo_any fn x T wx HXu.out.1 HXu.out.2 hT.1 hT.2)
  have HHa : Hid (∀ T wx, st.isU T → Calls Tryz.prog 38 #[.int .i64 fn, .int .u64 x, .int .u64 T] wx fun e w' => e = .returned (.tuple #[.int .u64 (wd.halfV fn x T), .int .i64 (wd.halfE fn)]) ∧ wx = w') := bl.hid (fun T wx hT => rhalf_any fn x T wx HXu.out.1 HXu.out.2 hT.1 hT.2)
  have HVd : Hid (∀ T, st.isU T → st.isU (wd.doV fn x T)) := bl.hid (fun T hT => doV_bd fn x T HXu.out.1 HXu.out.2 hT.1 hT.2)
  have HVh : Hid (∀ T, st.isU T → st.isU (wd.halfV fn x T)) := bl.hid (fun T hT => halfV_bd fn x T HXu.out.1 HXu.out.2 hT.1 hT.2)
  have HWi : Hid (st.isU (IntKind.u64.wrap im) ∧ IntKind.u64.wrap im = st.u64 im) := bl.hid (by rw [wrap_u]; exact ⟨st.u64_isU _, rfl⟩)
  cases imm with
  | false =>
    cases half with
    | false =>
      have HRe := bl.hid (HEx.out y (fun h => by cases h) (fun _ => rfl))
      have HT1 := bl.hid (HDo.out y)
      have HT2 := bl.hid (HHa.out y)
      have HVu : Hid (st.isU (wd.doV fn x y)) := bl.hid (HVd.out _ HYu.out)
      go_wp2
      go_quiet ((go_at_call 37; exact Calls.quiet_of_same ((HT1.out _ HYu.out).mono (fun e w' h => ⟨h.1, h.2.symm⟩))))
      obtain ⟨V, hV⟩ : ∃ V, wd.doV fn x y = V := ⟨_, rfl⟩
      rw [hV] at HVu ⊢
      have HV := bl.hid hV
      clear hV
      go_wp2_with fail
      refine (HCl.out _ _ HVu.out).mono ?_
      rintro e w4 ⟨rfl, m1, m2, m3⟩
      have c4 := m1.pcC
      rw [m3] at c4
      have fr4 := frozen_of_row w4 P.p 32 _ _ m1.row
      have HN4 := bl.hid m1.nxt
      have M2 := bl.hid m2
      have M3 := bl.hid m3
      clear m1 m2 m3
      go_wp2
      go_ret
      obtain ⟨n1, n2⟩ := HN4.out _ (by rw [M3.out])
      rw [← HR.out, HRe.out]
      refine ⟨rfl, ?_, M2.out.trans n2⟩
      have := n1
      rw [← HV.out] at this
      exact this
    | true =>
      have HRe := bl.hid (HEx.out y (fun h => by cases h) (fun _ => rfl))
      have HT1 := bl.hid (HDo.out y)
      have HT2 := bl.hid (HHa.out y)
      have HVu : Hid (st.isU (wd.halfV fn x y)) := bl.hid (HVh.out _ HYu.out)
      go_wp2
      go_quiet ((go_at_call 37; exact Calls.quiet_of_same ((HT1.out _ HYu.out).mono (fun e w' h => ⟨h.1, h.2.symm⟩))))
      go_wp2
      go_quiet ((go_at_call 38; refine (HT2.out _ HYu.out).mono ?_; intro e w' h; obtain ⟨h1, h2⟩ := h; exact ⟨h1, _, h2.symm⟩))
      obtain ⟨V, hV⟩ : ∃ V, wd.halfV fn x y = V := ⟨_, rfl⟩
      rw [hV] at HVu ⊢
      have HV := bl.hid hV
      clear hV
      go_wp2_with fail
      refine (HCl.out _ _ HVu.out).mono ?_
      rintro e w4 ⟨rfl, m1, m2, m3⟩
      have c4 := m1.pcC
      rw [m3] at c4
      have fr4 := frozen_of_row w4 P.p 32 _ _ m1.row
      have HN4 := bl.hid m1.nxt
      have M2 := bl.hid m2
      have M3 := bl.hid m3
      clear m1 m2 m3
      go_wp2
      go_ret
      obtain ⟨n1, n2⟩ := HN4.out _ (by rw [M3.out])
      rw [← HR.out, HRe.out]
      refine ⟨rfl, ?_, M2.out.trans n2⟩
      have := n1
      rw [← HV.out] at this
      exact this
  | true =>
    cases half with
    | false =>
      have HRe := bl.hid (HEx.out (IntKind.u64.wrap im) (fun _ => HWi.out.2) (fun h => by cases h))
      have HT1 := bl.hid (HDo.out (IntKind.u64.wrap im))
      have HT2 := bl.hid (HHa.out (IntKind.u64.wrap im))
      have HVu : Hid (st.isU (wd.doV fn x (IntKind.u64.wrap im))) := bl.hid (HVd.out _ HWi.out.1)
      go_wp2
      go_quiet ((go_at_call 37; exact Calls.quiet_of_same ((HT1.out _ HWi.out.1).mono (fun e w' h => ⟨h.1, h.2.symm⟩))))
      obtain ⟨V, hV⟩ : ∃ V, wd.doV fn x (IntKind.u64.wrap im) = V := ⟨_, rfl⟩
      rw [hV] at HVu ⊢
      have HV := bl.hid hV
      clear hV
      go_wp2_with fail
      refine (HCl.out _ _ HVu.out).mono ?_
      rintro e w4 ⟨rfl, m1, m2, m3⟩
      have c4 := m1.pcC
      rw [m3] at c4
      have fr4 := frozen_of_row w4 P.p 32 _ _ m1.row
      have HN4 := bl.hid m1.nxt
      have M2 := bl.hid m2
      have M3 := bl.hid m3
      clear m1 m2 m3
      go_wp2
      go_ret
      obtain ⟨n1, n2⟩ := HN4.out _ (by rw [M3.out])
      rw [← HR.out, HRe.out]
      refine ⟨rfl, ?_, M2.out.trans n2⟩
      have := n1
      rw [← HV.out] at this
      exact this
    | true =>
      have HRe := bl.hid (HEx.out (IntKind.u64.wrap im) (fun _ => HWi.out.2) (fun h => by cases h))
      have HT1 := bl.hid (HDo.out (IntKind.u64.wrap im))
      have HT2 := bl.hid (HHa.out (IntKind.u64.wrap im))
      have HVu : Hid (st.isU (wd.halfV fn x (IntKind.u64.wrap im))) := bl.hid (HVh.out _ HWi.out.1)
      go_wp2
      go_quiet ((go_at_call 37; exact Calls.quiet_of_same ((HT1.out _ HWi.out.1).mono (fun e w' h => ⟨h.1, h.2.symm⟩))))
      go_wp2
      go_quiet ((go_at_call 38; refine (HT2.out _ HWi.out.1).mono ?_; intro e w' h; obtain ⟨h1, h2⟩ := h; exact ⟨h1, _, h2.symm⟩))
      obtain ⟨V, hV⟩ : ∃ V, wd.halfV fn x (IntKind.u64.wrap im) = V := ⟨_, rfl⟩
      rw [hV] at HVu ⊢
      have HV := bl.hid hV
      clear hV
      go_wp2_with fail
      refine (HCl.out _ _ HVu.out).mono ?_
      rintro e w4 ⟨rfl, m1, m2, m3⟩
      have c4 := m1.pcC
      rw [m3] at c4
      have fr4 := frozen_of_row w4 P.p 32 _ _ m1.row
      have HN4 := bl.hid m1.nxt
      have M2 := bl.hid m2
      have M3 := bl.hid m3
      clear m1 m2 m3
      go_wp2
      go_ret
      obtain ⟨n1, n2⟩ := HN4.out _ (by rw [M3.out])
      rw [← HR.out, HRe.out]
      refine ⟨rfl, ?_, M2.out.trans n2⟩
      have := n1
      rw [← HV.out] at this
      exact this
theorem rstep_in (w : World) (P : st.Pl) (f : Nat → Int) (s : st.S) (i : st.In) (h : IsRM w P f s) (hi : st.InOk i) (hF : Calls Tryz.prog 31 #[.pointer (some ⟨P.p, 0, none⟩)] w (FetchPost i 0 w)) :
    Calls Tryz.prog 11 #[.pointer (some ⟨P.p, 0, none⟩)] w (RTurn P f (.int .i64 (st.exec i s).1) (st.exec i s).2 w) := by
  have ho := hi.op
  by_cases h1 : i.op = 1
  · exact rstep_lui w P f s i h hi h1 hF
  by_cases h2 : i.op = 2
  · exact rstep_auipc w P f s i h hi h2 hF
  by_cases h10 : i.op ≤ 10
  · exact rstep_jumps w P f s i h hi (by omega) h10 hF
  by_cases h21 : i.op ≤ 21
  · exact rstep_mem w P f s i h hi (by omega) h21 hF
  by_cases h62 : i.op ≤ 62
  · exact rstep_pair w P f s i h hi (by omega) h62 hF
  · exact rstep_call w P f s i h hi (by omega) hF
theorem rstep_any (w : World) (P : st.Pl) (f : Nat → Int) (s : st.S) (h : IsRM w P f s) :
    Calls Tryz.prog 11 #[.pointer (some ⟨P.p, 0, none⟩)] w (RTurn P f (.int .i64 (st.step (fun k => st.toldOf (f k)) P.n s).1) (st.step (fun k => st.toldOf (f k)) P.n s).2 w) := by
  rw [st.step_fetch]
  have hF := rfetch_any w P f s h
  have hok := st.fetch_ok f P.n s
  obtain ⟨⟨i, en⟩, hFe⟩ : ∃ F, st.fetchS f P.n s = F := ⟨_, rfl⟩
  rw [hFe] at hF hok ⊢
  dsimp only at hF hok ⊢
  by_cases he : en = 0
  · subst he
    rw [if_neg (by simp)]
    exact rstep_in w P f s i h (hok rfl) hF
  · rw [if_pos he]
    have he' : (en != 0) = true := by simpa using he
    obtain ⟨op, rd, rs1, rs2, im⟩ := i
    have HH := bl.hid h
    have HFe : Hid (Calls Tryz.prog 31 #[.pointer (some ⟨P.p, 0, none⟩)] w fun e w1 => e = .returned (.tuple #[.agg #[.int .i64 op, .int .i64 rd, .int .i64 rs1, .int .i64 rs2, .int .i64 im], .int .i64 en]) ∧ Below w.heap.size w w1) := bl.hid hF
    clear h hF hok hFe he
    go_enter Tryz.func11, Tryz.ntmps11
    go_wp2_with fail
    refine HFe.out.mono ?_
    rintro e w1 ⟨rfl, hb⟩
    have HE : Hid (∀ o, RTurn P f (.int .i64 en) s w (.returned (.int .i64 en)) (w1.alloc o)) := bl.hid (fun o => ⟨rfl, HH.out.keep (hb.alloc hb.size o), But2.of_below (hb.alloc hb.size o)⟩)
    clear hb
    go_wp2
    go_ret
    exact HE.out _
end Go.Proofs.YtjjkocklpcdbkaaGreat
