/- awake: the walk. -/
import Derived.Test.YtbcflhpaafpndaaAsAwake
import Derived.Test.YtbcflhpaafpndaaAsSame
namespace Go.Proofs.Ytbcflhpaafpndaa
open Go.RowKit
set_option linter.unusedVariables false
/-- a list is as itself -/
theorem al.sameN_self (f : Nat → Int) : ∀ n, al.sameN f f n = true
  | 0 => rfl
  | n + 1 => by unfold al.sameN; rw [al.sameN_self f n, decide_eq_true rfl]; rfl
theorem al.place3_at : ∀ i, i < 4 → al.place al.ls3 (al.farE al.ls3 3) i = if i = 2 then 1 else if i = 3 then 2 else 0 := by decide +kernel
theorem nums4 (w : World) : NumsAt .i64 (w.alloc (.cells #[.int .i64 0, .int .i64 0, .int .i64 1, .int .i64 2] 3)) (some ⟨w.heap.size, 0, none⟩) 4 (al.place al.ls3 (al.farE al.ls3 3)) := by
  have hb := heap_alloc_new w (.cells #[.int .i64 0, .int .i64 0, .int .i64 1, .int .i64 2] 3)
  refine .inr ⟨w.heap.size, 0, rfl, fun i hi => ?_⟩
  rw [al.place3_at i hi]
  have : i = 0 ∨ i = 1 ∨ i = 2 ∨ i = 3 := by omega
  rcases this with rfl | rfl | rfl | rfl <;> exact (cell_of_row _ _ _ _ _ _ hb).trans rfl
theorem numsB {K : IntKind} {w w' : World} {g n : Nat} {f : Nat → Int} (h : ∀ i, i < n → w.cell? ⟨g, i, none⟩ = some (.int K (f i))) (hb : w'.heap[g]? = w.heap[g]?) : NumsAt K w' (some ⟨g, 0, none⟩) n f :=
  .inr ⟨g, 0, rfl, fun i hi => by rw [Nat.zero_add]; exact (World.cell?_of_block (w := w) (a := ⟨g, i, none⟩) hb).trans (h i hi)⟩
theorem al.chk_back : rv.chkI 5 0 1 2 (-4) = 0 := by decide +kernel
set_option maxRecDepth 100000 in
set_option maxHeartbeats 1600000 in
theorem awake_any (w : World) : Calls Try.prog 15 #[] w fun e w' => e = .returned (.bool true) ∧ Below w.heap.size w w' := by
  have HLa : Hid (∀ w, Calls Try.prog 11 #[.int .i64 1] w fun e w' => e = .returned (.agg #[.int .i64 1, .int .i64 1, .int .i64 0, .int .i64 0, .int .i64 0, .int .i64 0, .int .i64 0]) ∧ Below w.heap.size w w') := bl.hid (label_any 1)
  have HNo : Hid (∀ w, Calls Try.prog 14 #[] w fun e w' => e = .returned (.agg #[.int .i64 0, .int .i64 0, .int .i64 22, .int .i64 0, .int .i64 0, .int .i64 0, .int .i64 0]) ∧ Below w.heap.size w w') := bl.hid nothing_any
  have HBr : Hid (∀ w, Calls Try.prog 12 #[] w fun e w' => e = .returned (.agg #[.int .i64 2, .int .i64 1, .int .i64 5, .int .i64 0, .int .i64 1, .int .i64 2, .int .i64 0]) ∧ Below w.heap.size w w') := bl.hid branch_any
  go_enter Try.func15, Try.ntmps15
  go_wp2_with fail
  refine (HLa.out _).mono ?_
  rintro e w1 ⟨rfl, h1⟩
  have H1 := bl.hid h1
  have s1 := h1.size
  clear h1
  go_wp2_with fail
  refine (HNo.out _).mono ?_
  rintro e w2 ⟨rfl, h2⟩
  have H2 := bl.hid h2
  have s2 := h2.size
  clear h2
  go_wp2_with fail
  refine (HBr.out _).mono ?_
  rintro e w3 ⟨rfl, h3⟩
  have H3 := bl.hid h3
  have s3 := h3.size
  clear h3
  have HP := bl.hid (places_any (some ⟨w3.heap.size, 0, none⟩) 3 3 al.ls3 _ (lines3 w3))
  go_wp2_with fail
  refine HP.out.mono ?_
  rintro e w4 ⟨h4, _, h5⟩
  obtain ⟨base, pv, rfl, hbs, hown⟩ := h5 al.check3
  obtain ⟨g, cap, rfl, hg1, hg2, hcl⟩ := own_cell hown (by omega)
  have H4 := bl.hid h4
  have s4 := h4.size
  have HCl := bl.hid hcl
  clear h4 h5 hown hcl
  have HA := bl.hid (assemble_any (some ⟨w3.heap.size, 0, none⟩) 3 3 al.ls3 w4 ((lines3 w3).keep H4.out))
  go_wp2_with fail
  refine HA.out.mono ?_
  rintro e w5 ⟨h6, _, h7⟩
  obtain ⟨base2, pv2, rfl, hbs2, hown2⟩ := h7 al.check3
  rw [al.inss3] at hown2
  obtain ⟨g2, cap2, rfl, hg3, hg4, hcl2⟩ := own_cell hown2 (by decide)
  obtain ⟨D, hD⟩ : ∃ D, al.enc5 ⟨5, 0, 1, 2, -4⟩ = D := ⟨_, rfl⟩
  have d1 : w5.cell? ⟨g2, 1, none⟩ = some (.int .u32 D) := by rw [← hD]; exact hcl2 1 _ rfl
  obtain ⟨⟨D0, D1⟩, D2, D3⟩ := rv.dec_back 5 0 1 2 (-4) al.chk_back
  have hD' : rv.encI 5 0 1 2 (-4) = D := hD
  rw [hD'] at D0 D1 D2 D3
  have HDec : Hid (∀ w, Calls Try.prog 9 #[.int .u32 D] w fun e w' => e = .returned (.tuple #[.agg #[.int .i64 5, .int .i64 0, .int .i64 1, .int .i64 2, .int .i64 (-4)], .int .i64 0]) ∧ Below w.heap.size w w') := bl.hid (fun w => by
    have := decode_any D D0 D1 w
    rw [D2, D3] at this
    exact this)
  have hgb : w5.heap[g]? = w4.heap[g]? := h6.block g hg2
  have HS : Hid (Calls Try.prog 32 #[.slice (some ⟨g, 0, none⟩) 4 cap, .slice (some ⟨w5.heap.size, 0, none⟩) 4 4] (w5.alloc (.cells #[.int .i64 0, .int .i64 0, .int .i64 1, .int .i64 2] 3)) fun e w' => e = .returned (.bool true) ∧ ∃ q, w' = (w5.alloc (.cells #[.int .i64 0, .int .i64 0, .int .i64 1, .int .i64 2] 3)).drewN q) := bl.hid (by
    have := sameInts_any (some ⟨g, 0, none⟩) (some ⟨w5.heap.size, 0, none⟩) 4 4 cap 4 _ _ _ (by omega) (numsB (K := .i64) (w := w4) (w' := w5.alloc (.cells #[.int .i64 0, .int .i64 0, .int .i64 1, .int .i64 2] 3)) (n := 4) (f := al.place al.ls3 (al.farE al.ls3 3)) (fun i hi => HCl.out i _ (placeVals_at _ _ 4 i hi)) (((kt.below_row _).block g (by have := h6.size; omega)).trans hgb)) (nums4 w5)
    rw [al.sameN_self] at this
    exact this)
  have HIv := bl.hid (fun w => inverse_any 7 (by omega) (by omega) w)
  have hi8 : al.inv 7 = 8 := by decide
  rw [hi8] at HIv
  have H6 := bl.hid h6
  have s6 := h6.size
  clear h6 h7 hown2 hcl2 D0 D1 D2 D3 hD hD' hgb HP HA HCl hi8
  go_wp2_with fail
  refine HS.out.mono ?_
  rintro e w6 ⟨rfl, q, rfl⟩
  go_wp2_with fail
  refine (HDec.out _).mono ?_
  rintro e w7 ⟨rfl, h7⟩
  have H7 := bl.hid h7
  have s7 := h7.size
  clear h7
  go_wp2_with fail
  refine (HIv.out _).mono ?_
  rintro e w8 ⟨rfl, rfl⟩
  go_wp2
  go_ret
  refine ⟨rfl, ?_⟩
  rw [World.size_alloc] at hbs s4
  have b3 : Below w.heap.size w w3 := (H1.out.trans (H2.out.mono s1)).trans (H3.out.mono (by omega))
  have b4 : Below w.heap.size w w4 := (b3.alloc (by omega) _).trans (H4.out.mono (by rw [World.size_alloc]; omega))
  have b5 : Below w.heap.size w w5 := b4.trans (H6.out.mono (by omega))
  have b7 : Below w.heap.size w w7 := ((b5.alloc (by omega) _).drewN' q).trans (H7.out.mono (by show _ ≤ (World.alloc _ _).heap.size; rw [World.size_alloc]; omega))
  exact b7.alloc (by have := b7.size; omega) _
end Go.Proofs.Ytbcflhpaafpndaa
