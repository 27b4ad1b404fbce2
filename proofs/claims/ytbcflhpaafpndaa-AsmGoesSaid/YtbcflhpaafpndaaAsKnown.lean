/- AsmKnown: the chapter's examples. -/
import Derived.Test.YtbcflhpaafpndaaAsKnownP
import Derived.Test.YtbcflhpaafpndaaAsAwake2
import Derived.Test.YtbcflhpaafpndaaAsShort
namespace Go.Proofs.Ytbcflhpaafpndaa
open Go.RowKit
set_option linter.unusedVariables false
/-- what Assemble answers to lines that lie somewhere -/
theorem asm_lines (L : List kt.Ln) (w : World) (v : Value) (base : Nat) (h : w.ownsRow base 35 7 v L.length (kt.lnFlat L)) (hok : ∀ x ∈ L, kt.LnOk x) (hs : L.length ≤ 4000) :
    ∃ a c, v = .slice a L.length c ∧ Calls Try.prog 7 #[v] w (AsmPost L.length (kt.nth L) w) := by
  obtain ⟨a, cap, e, _, hl⟩ := kt.own_lines rfl h hok (by omega)
  subst e
  exact ⟨a, cap, rfl, assemble_any a L.length cap (kt.nth L) w hl⟩
theorem near_any (w : World) : Calls Try.prog 8 #[.int .i64 1022] w fun e w1 => Below w.heap.size w w1 ∧ ∃ v, e = .returned v ∧ Calls Try.prog 7 #[v] w1 fun e w2 => Below w1.heap.size w1 w2 ∧ ∃ a c, e = .returned (.tuple #[.slice a 1023 c, .int .i64 0]) := by
  refine (apart_any 1022 (by omega) w).mono ?_
  rintro e w1 ⟨v, rfl, ho, hb⟩
  refine ⟨hb, v, rfl, ?_⟩
  obtain ⟨a, c, rfl, hc⟩ := asm_lines _ w1 v _ ho (al.ap_ok 1022) (by rw [al.ap_len]; omega)
  refine hc.mono ?_
  rintro e w2 ⟨h1, h2, h3⟩
  rw [al.ap_len] at h3
  obtain ⟨base, pv, rfl, _, hown⟩ := h3 (al.ap_check 1022 (by omega))
  have hl : (al.inss (kt.nth (al.apartL 1022)) (1022 + 2) (al.farE (kt.nth (al.apartL 1022)) (1022 + 2)) (1022 + 2)).length = 1023 := al.near_len
  obtain ⟨ga, cap, rfl, _, _⟩ := own_words hown
  exact ⟨h1, ga, cap, by rw [hl]⟩
theorem far_any (w : World) : Calls Try.prog 8 #[.int .i64 1023] w fun e w1 => Below w.heap.size w w1 ∧ ∃ v, e = .returned v ∧ Calls Try.prog 7 #[v] w1 fun e w2 => Below w1.heap.size w1 w2 ∧ ∃ g c, e = .returned (.tuple #[.slice (some ⟨g, 0, none⟩) 1025 c, .int .i64 0]) ∧ g < w2.heap.size ∧
    w2.cell? ⟨g, 0, none⟩ = some (.int .u32 (rv.encI 6 0 1 2 8)) ∧ w2.cell? ⟨g, 1, none⟩ = some (.int .u32 (rv.encI 3 0 0 0 4096)) := by
  refine (apart_any 1023 (by omega) w).mono ?_
  rintro e w1 ⟨v, rfl, ho, hb⟩
  refine ⟨hb, v, rfl, ?_⟩
  obtain ⟨a, c, rfl, hc⟩ := asm_lines _ w1 v _ ho (al.ap_ok 1023) (by rw [al.ap_len]; omega)
  refine hc.mono ?_
  rintro e w2 ⟨h1, h2, h3⟩
  rw [al.ap_len] at h3
  obtain ⟨base, pv, rfl, _, hown⟩ := h3 (al.ap_check 1023 (by omega))
  have hl : (al.inss (kt.nth (al.apartL 1023)) (1023 + 2) (al.farE (kt.nth (al.apartL 1023)) (1023 + 2)) (1023 + 2)).length = 1025 := al.far_len
  obtain ⟨f0, f1⟩ : (al.inss (kt.nth (al.apartL 1023)) (1023 + 2) (al.farE (kt.nth (al.apartL 1023)) (1023 + 2)) (1023 + 2))[0]? = _ ∧ (al.inss (kt.nth (al.apartL 1023)) (1023 + 2) (al.farE (kt.nth (al.apartL 1023)) (1023 + 2)) (1023 + 2))[1]? = _ := al.far_first
  rw [hl] at hown
  obtain ⟨g, cap, rfl, _, hg, hcl⟩ := own_cell hown (by omega)
  refine ⟨h1, g, cap, rfl, hg, hcl 0 _ ?_, hcl 1 _ ?_⟩
  · unfold al.wordsV
    rw [List.getElem?_map, f0]
    rfl
  · unfold al.wordsV
    rw [List.getElem?_map, f1]
    rfl
/-- Check, at lines that are written out -/
theorem lit_check (L : List kt.Ln) (cs : Array Value) (n : Nat) (r : Int) (hcs : (kt.lnFlat L).toArray = cs) (hn : L.length = n) (hok : ∀ x ∈ L, kt.LnOk x) (hl : L.length ≤ 100) (hr : al.check (kt.nth L) n = r) (w : World) :
    Calls Try.prog 10 #[.slice (some ⟨w.heap.size, 0, none⟩) n n] (w.alloc (.cells cs 35)) fun e w' => e = .returned (.int .i64 r) ∧ Below (w.heap.size + 1) (w.alloc (.cells cs 35)) w' := by
  subst hcs hn hr
  have := acheck_any (some ⟨w.heap.size, 0, none⟩) L.length L.length (kt.nth L) _ (lines_lit L w hok hl)
  rw [World.size_alloc] at this
  exact this
theorem ok_lit (kd lb op : Int) (h : (kd = 0 ∨ kd = 1 ∨ kd = 2) ∧ (lb = 0 ∨ lb = 1) ∧ (op = 0 ∨ op = 5 ∨ op = 22)) (rs1 rs2 : Int) (h2 : (rs1 = 0 ∨ rs1 = 1) ∧ (rs2 = 0 ∨ rs2 = 2)) : kt.LnOk ⟨kd, lb, op, 0, rs1, rs2, 0⟩ := by
  constructor <;> (unfold kt.i64ok; dsimp only; omega)
theorem bstep {B : Nat} {a b c : World} (h : Below B a b ∧ B ≤ b.heap.size) (k : Below b.heap.size b c) : Below B a c ∧ B ≤ c.heap.size :=
  ⟨h.1.trans (k.mono h.2), Nat.le_trans h.2 k.size⟩
theorem balloc {B : Nat} {a b : World} (h : Below B a b ∧ B ≤ b.heap.size) (o : Obj) : Below B a (b.alloc o) ∧ B ≤ (b.alloc o).heap.size :=
  ⟨h.1.alloc h.2 o, by rw [World.size_alloc]; exact Nat.le_succ_of_le h.2⟩
set_option maxRecDepth 100000 in
set_option maxHeartbeats 3200000 in
theorem known_any (w : World) : Calls Try.prog 3 #[] w fun e w' => e = .returned (.bool true) ∧ Below w.heap.size w w' := by
  have HN := bl.hid near_any
  have HF := bl.hid far_any
  go_enter Try.func3, Try.ntmps3
  go_wp2_with fail
  refine (HN.out _).mono ?_
  rintro e w1 ⟨h1, v, rfl, hc⟩
  have H1 := bl.hid h1
  have s1 := h1.size
  have HC := bl.hid hc
  clear h1 hc
  go_wp2_with fail
  refine HC.out.mono ?_
  rintro e w2 ⟨h2, a, c, rfl⟩
  have H2 := bl.hid (below_call H1.out h2)
  clear h2 HC H1 s1
  go_wp2_with fail
  refine (HF.out _).mono ?_
  rintro e w3 ⟨h3, v2, rfl, hc⟩
  have H3 := bl.hid (below_call H2.out h3)
  have HC := bl.hid hc
  clear h3 hc H2
  go_wp2_with fail
  refine HC.out.mono ?_
  rintro e w4 ⟨h4, g, c2, rfl, hg, d0, d1⟩
  have H4 := bl.hid (below_call H3.out h4)
  clear h4 HC H3
  obtain ⟨⟨A0, A1⟩, A2, A3⟩ := rv.dec_back 6 0 1 2 8 al.chk_far.1
  obtain ⟨⟨B0, B1⟩, B2, B3⟩ := rv.dec_back 3 0 0 0 4096 al.chk_far.2
  obtain ⟨D0, hD0⟩ : ∃ D, rv.encI 6 0 1 2 8 = D := ⟨_, rfl⟩
  obtain ⟨D1, hD1⟩ : ∃ D, rv.encI 3 0 0 0 4096 = D := ⟨_, rfl⟩
  rw [hD0] at d0 A0 A1 A2 A3
  rw [hD1] at d1 B0 B1 B2 B3
  have HDA : Hid (∀ w, Calls Try.prog 9 #[.int .u32 D0] w fun e w' => e = .returned (.tuple #[.agg #[.int .i64 6, .int .i64 0, .int .i64 1, .int .i64 2, .int .i64 8], .int .i64 0]) ∧ Below w.heap.size w w') := bl.hid (fun w => by
    have := decode_any D0 A0 A1 w
    rw [A2, A3] at this
    exact this)
  have HDB : Hid (∀ w, Calls Try.prog 9 #[.int .u32 D1] w fun e w' => e = .returned (.tuple #[.agg #[.int .i64 3, .int .i64 0, .int .i64 0, .int .i64 0, .int .i64 4096], .int .i64 0]) ∧ Below w.heap.size w w') := bl.hid (fun w => by
    have := decode_any D1 B0 B1 w
    rw [B2, B3] at this
    exact this)
  clear A0 A1 A2 A3 B0 B1 B2 B3 hD0 hD1
  go_wp2_with fail
  refine (HDA.out _).mono ?_
  rintro e w5 ⟨rfl, h5⟩
  have H5 := bl.hid (below_call H4.out h5)
  have d1' := (h5.cell (p := ⟨g, 1, none⟩) hg).trans d1
  have s5 := h5.size
  have hg5 : g < w5.heap.size := by omega
  clear h5 d0 d1
  go_wp2_with fail
  refine (HDB.out _).mono ?_
  rintro e w6 ⟨rfl, h6⟩
  have hx6 := (h6.block w5.heap.size (by rw [World.size_alloc]; omega)).trans (heap_alloc_new w5 (.cells #[.int .i64 6, .int .i64 0, .int .i64 1, .int .i64 2, .int .i64 8] 29))
  have H6 : Hid (Below w.heap.size w w6) := bl.hid ((H5.out.alloc H5.out.size _).trans (h6.mono (by have := H5.out.size; rw [World.size_alloc]; omega)))
  have s6 : w5.heap.size + 1 ≤ w6.heap.size := by have := h6.size; rw [World.size_alloc] at this; exact this
  have HX6 := bl.hid hx6
  clear h6 hx6 d1' hg5
  have HLa : Hid (∀ n w, Calls Try.prog 11 #[.int .i64 n] w fun e w' => e = .returned (.agg #[.int .i64 1, .int .i64 n, .int .i64 0, .int .i64 0, .int .i64 0, .int .i64 0, .int .i64 0]) ∧ Below w.heap.size w w') := bl.hid label_any
  have HNo : Hid (∀ w, Calls Try.prog 14 #[] w fun e w' => e = .returned (.agg #[.int .i64 0, .int .i64 0, .int .i64 22, .int .i64 0, .int .i64 0, .int .i64 0, .int .i64 0]) ∧ Below w.heap.size w w') := bl.hid nothing_any
  have HBr : Hid (∀ w, Calls Try.prog 12 #[] w fun e w' => e = .returned (.agg #[.int .i64 2, .int .i64 1, .int .i64 5, .int .i64 0, .int .i64 1, .int .i64 2, .int .i64 0]) ∧ Below w.heap.size w w') := bl.hid branch_any
  have HA : Hid (Below w.heap.size w (w6.alloc (.cells #[.int .i64 3, .int .i64 0, .int .i64 0, .int .i64 0, .int .i64 4096] 29)) ∧ (w6.alloc (.cells #[.int .i64 3, .int .i64 0, .int .i64 0, .int .i64 0, .int .i64 4096] 29)).heap[w5.heap.size]? = some (.cells #[.int .i64 6, .int .i64 0, .int .i64 1, .int .i64 2, .int .i64 8] 29 (0, 0)) ∧ (w6.alloc (.cells #[.int .i64 3, .int .i64 0, .int .i64 0, .int .i64 0, .int .i64 4096] 29)).heap[w6.heap.size]? = some (.cells #[.int .i64 3, .int .i64 0, .int .i64 0, .int .i64 0, .int .i64 4096] 29 (0, 0)) ∧ (w6.alloc (.cells #[.int .i64 3, .int .i64 0, .int .i64 0, .int .i64 0, .int .i64 4096] 29)).heap.size = w6.heap.size + 1) := bl.hid
    ⟨H6.out.alloc H6.out.size _, (Below.heap_alloc _ _ _ (by omega)).trans HX6.out, heap_alloc_new _ _, World.size_alloc _ _⟩
  clear HX6 H6 H5 H4
  go_upto_region 7 with (fail)
  refine kt.forget (fun wa => Below w.heap.size w wa ∧ wa.heap[w5.heap.size]? = some (.cells #[.int .i64 6, .int .i64 0, .int .i64 1, .int .i64 2, .int .i64 8] 29 (0, 0)) ∧ wa.heap[w6.heap.size]? = some (.cells #[.int .i64 3, .int .i64 0, .int .i64 0, .int .i64 0, .int .i64 4096] 29 (0, 0)) ∧ wa.heap.size = w6.heap.size + 1) HA.out ?_
  rintro wa ⟨ha1, ha2, ha3, ha4⟩
  have HW0 : Hid (Below (w6.heap.size + 1) wa wa ∧ w6.heap.size + 1 ≤ wa.heap.size) := bl.hid ⟨Below.refl _ _, by omega⟩
  have HWB := bl.hid ha1
  have HX5 := bl.hid ha2
  have HX6 := bl.hid ha3
  have HK7 := bl.hid (lit_check [al.labelL 1, al.labelL 1] #[.int .i64 1, .int .i64 1, .int .i64 0, .int .i64 0, .int .i64 0, .int .i64 0, .int .i64 0, .int .i64 1, .int .i64 1, .int .i64 0, .int .i64 0, .int .i64 0, .int .i64 0, .int .i64 0] 2 7 rfl rfl (by intro x hx; simp at hx; subst hx; exact ok_lit 1 1 0 (by omega) 0 0 (by omega)) (by decide) al.odd_check.1)
  have HK6 := bl.hid (lit_check [al.branchL] #[.int .i64 2, .int .i64 1, .int .i64 5, .int .i64 0, .int .i64 1, .int .i64 2, .int .i64 0] 1 6 rfl rfl (by intro x hx; simp at hx; subst hx; exact ok_lit 2 1 5 (by omega) 1 2 (by omega)) (by decide) al.odd_check.2.1)
  have HK2 := bl.hid (lit_check [al.labelL 0] #[.int .i64 1, .int .i64 0, .int .i64 0, .int .i64 0, .int .i64 0, .int .i64 0, .int .i64 0] 1 2 rfl rfl (by intro x hx; simp at hx; subst hx; exact ok_lit 1 0 0 (by omega) 0 0 (by omega)) (by decide) al.odd_check.2.2.1)
  have HKp := bl.hid (lit_check [⟨0, 1, 22, 0, 0, 0, 0⟩] #[.int .i64 0, .int .i64 1, .int .i64 22, .int .i64 0, .int .i64 0, .int .i64 0, .int .i64 0] 1 2 rfl rfl (by intro x hx; simp at hx; subst hx; exact ok_lit 0 1 22 (by omega) 0 0 (by omega)) (by decide) al.odd_check.2.2.2.1)
  have HIv := bl.hid (fun w => inverse_any 3 (by omega) (by omega) w)
  rw [al.odd_check.2.2.2.2] at HIv
  clear ha1 ha2 ha3 HA
  go_wp2_with fail
  refine (HLa.out 1 _).mono ?_
  rintro e w7 ⟨rfl, hb⟩
  have HW1 := bl.hid (bstep HW0.out hb)
  clear hb
  go_wp2_with fail
  refine (HLa.out 1 _).mono ?_
  rintro e w8 ⟨rfl, hb⟩
  have HW2 := bl.hid (bstep HW1.out hb)
  clear hb
  go_wp2_with fail
  refine (HK7.out w8).mono ?_
  rintro e w9 ⟨rfl, hb⟩
  have HW3 := bl.hid (bstep (balloc HW2.out _) (by rw [World.size_alloc]; exact hb))
  clear hb
  go_wp2_with fail
  refine (HBr.out _).mono ?_
  rintro e w10 ⟨rfl, hb⟩
  have HW4 := bl.hid (bstep HW3.out hb)
  clear hb
  go_wp2_with fail
  refine (HK6.out w10).mono ?_
  rintro e w11 ⟨rfl, hb⟩
  have HW5 := bl.hid (bstep (balloc HW4.out _) (by rw [World.size_alloc]; exact hb))
  clear hb
  go_wp2_with fail
  refine (HLa.out 0 _).mono ?_
  rintro e w12 ⟨rfl, hb⟩
  have HW6 := bl.hid (bstep HW5.out hb)
  clear hb
  go_wp2_with fail
  refine (HK2.out w12).mono ?_
  rintro e w13 ⟨rfl, hb⟩
  have HW7 := bl.hid (bstep (balloc HW6.out _) (by rw [World.size_alloc]; exact hb))
  clear hb
  go_wp2_with fail
  refine (HIv.out _).mono ?_
  rintro e w14 ⟨rfl, rfl⟩
  go_wp2_with fail
  refine (HNo.out _).mono ?_
  rintro e w14 ⟨rfl, hb⟩
  have HW8 := bl.hid (bstep HW7.out hb)
  clear hb
  go_upto_region 10 with (fail)
  refine kt.forget (fun wb => (Below (w6.heap.size + 1) wa wb ∧ w6.heap.size + 1 ≤ wb.heap.size) ∧ wb.heap[w14.heap.size]? = some (.cells #[.int .i64 0, .int .i64 1, .int .i64 22, .int .i64 0, .int .i64 0, .int .i64 0, .int .i64 0] 35 (0, 0)) ∧ wb.heap.size = w14.heap.size + 1) ?hb ?_
  case hb =>
    exact ⟨balloc HW8.out _, heap_alloc_new _ _, World.size_alloc _ _⟩
  rintro wb ⟨hb1, hb2, hb3⟩
  have HW9 := bl.hid hb1
  have HX7 := bl.hid hb2
  have hs9 := HW8.out.2
  have HAw := bl.hid awake_any
  clear hb1 hb2
  go_wp2_with fail
  refine (HAw.out _).mono ?_
  rintro e w15 ⟨rfl, hb⟩
  have HW10 := bl.hid (bstep HW9.out hb)
  have HX7' := (hb.block w14.heap.size (by omega)).trans HX7.out
  have c0 : w15.cell? ⟨w14.heap.size, 0, none⟩ = some (.int .i64 0) := (cell_of_row _ _ _ _ _ _ HX7').trans rfl
  have c1 : w15.cell? ⟨w14.heap.size, 1, none⟩ = some (.int .i64 1) := (cell_of_row _ _ _ _ _ _ HX7').trans rfl
  have c2 : w15.cell? ⟨w14.heap.size, 2, none⟩ = some (.int .i64 22) := (cell_of_row _ _ _ _ _ _ HX7').trans rfl
  have c3 : w15.cell? ⟨w14.heap.size, 3, none⟩ = some (.int .i64 0) := (cell_of_row _ _ _ _ _ _ HX7').trans rfl
  have c4 : w15.cell? ⟨w14.heap.size, 4, none⟩ = some (.int .i64 0) := (cell_of_row _ _ _ _ _ _ HX7').trans rfl
  have c5 : w15.cell? ⟨w14.heap.size, 5, none⟩ = some (.int .i64 0) := (cell_of_row _ _ _ _ _ _ HX7').trans rfl
  have c6 : w15.cell? ⟨w14.heap.size, 6, none⟩ = some (.int .i64 0) := (cell_of_row _ _ _ _ _ _ HX7').trans rfl
  have l14 : w14.heap.size < w15.heap.size := by have := hb.size; omega
  clear hb HX7'
  go_wp2_with fail
  refine (HKp.out w15).mono ?_
  rintro e w16 ⟨rfl, hb⟩
  have hW := bstep (balloc HW10.out (.cells #[.int .i64 0, .int .i64 1, .int .i64 22, .int .i64 0, .int .i64 0, .int .i64 0, .int .i64 0] 35)) (by rw [World.size_alloc]; exact hb)
  have r5 := (hW.1.block w5.heap.size (by omega)).trans HX5.out
  have r6 := (hW.1.block w6.heap.size (by omega)).trans HX6.out
  have a0 : w16.cell? ⟨w5.heap.size, 0, none⟩ = some (.int .i64 6) := (cell_of_row _ _ _ _ _ _ r5).trans rfl
  have a1 : w16.cell? ⟨w5.heap.size, 1, none⟩ = some (.int .i64 0) := (cell_of_row _ _ _ _ _ _ r5).trans rfl
  have a2 : w16.cell? ⟨w5.heap.size, 2, none⟩ = some (.int .i64 1) := (cell_of_row _ _ _ _ _ _ r5).trans rfl
  have a3 : w16.cell? ⟨w5.heap.size, 3, none⟩ = some (.int .i64 2) := (cell_of_row _ _ _ _ _ _ r5).trans rfl
  have a4 : w16.cell? ⟨w5.heap.size, 4, none⟩ = some (.int .i64 8) := (cell_of_row _ _ _ _ _ _ r5).trans rfl
  have b0 : w16.cell? ⟨w6.heap.size, 0, none⟩ = some (.int .i64 3) := (cell_of_row _ _ _ _ _ _ r6).trans rfl
  have b1 : w16.cell? ⟨w6.heap.size, 1, none⟩ = some (.int .i64 0) := (cell_of_row _ _ _ _ _ _ r6).trans rfl
  have b2 : w16.cell? ⟨w6.heap.size, 2, none⟩ = some (.int .i64 0) := (cell_of_row _ _ _ _ _ _ r6).trans rfl
  have b3 : w16.cell? ⟨w6.heap.size, 3, none⟩ = some (.int .i64 0) := (cell_of_row _ _ _ _ _ _ r6).trans rfl
  have b4 : w16.cell? ⟨w6.heap.size, 4, none⟩ = some (.int .i64 4096) := (cell_of_row _ _ _ _ _ _ r6).trans rfl
  have HE : Hid (Below w.heap.size w w16) := bl.hid (HWB.out.trans (hW.1.mono (by have := HWB.out.size; omega)))
  clear hb hW r5 r6
  go_wp2
  go_ret
  exact ⟨rfl, HE.out⟩
end Go.Proofs.Ytbcflhpaafpndaa
