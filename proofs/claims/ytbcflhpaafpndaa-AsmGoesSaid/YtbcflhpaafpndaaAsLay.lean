/- lay: where lines stand. -/
import Derived.Test.YtbcflhpaafpndaaAsMap
import Derived.Test.YtbcflhpaafpndaaAsLines
import Derived.Test.YtbcflhpaafpndaaRows
import Derived.StillTailTactics
import Derived.Outline
namespace Go.Proofs.Ytbcflhpaafpndaa
open Go.RowKit
set_option linter.unusedVariables false
/-- a plan's cells -/
def planCells (a : Option Addr) (n c : Nat) (fa : Option Addr) (m fc : Nat) (pv mv : Value) : Array Value := #[.slice a n c, .slice fa m fc, pv, mv]
/-- who is far, in memory -/
def FarAt (w : World) (fa : Option Addr) (n : Nat) (far : Nat → Bool) : Prop := n = 0 ∨ ∃ B, fa = some ⟨B, 0, none⟩ ∧ w.heap[B]? = some (.cells ((List.range n).map fun i => Value.bool (far i)).toArray 4 (0, 0))
theorem FarAt.cell {w : World} {fa : Option Addr} {n : Nat} {far : Nat → Bool} (h : FarAt w fa n far) (i : Nat) (hi : i < n) : ∃ B, fa = some ⟨B, 0, none⟩ ∧ w.cell? ⟨B, i, none⟩ = some (.bool (far i)) := by
  rcases h with h | ⟨B, e, h⟩
  · omega
  · refine ⟨B, e, (cell_of_row _ _ _ _ _ _ h).trans ?_⟩
    simp [hi]
theorem FarAt.blk {w : World} {fa : Option Addr} {n : Nat} {far : Nat → Bool} (h : FarAt w fa n far) (hn : 0 < n) : ∃ B, fa = some ⟨B, 0, none⟩ ∧ w.heap[B]? = some (.cells ((List.range n).map fun i => Value.bool (far i)).toArray 4 (0, 0)) := by
  rcases h with h | h
  · omega
  · exact h
theorem far_cell {w : World} {B n : Nat} {far : Nat → Bool} (h : w.heap[B]? = some (.cells ((List.range n).map fun i => Value.bool (far i)).toArray 4 (0, 0))) (i : Nat) (hi : i < n) : w.cell? ⟨B, i, none⟩ = some (.bool (far i)) := (cell_of_row _ _ _ _ _ _ h).trans (by simp [hi])
theorem int_zero (w : World) : (zeroValue 3).run Try.prog w = .ok (.int .i64 0) w := by kernel_rfl
theorem int_parts : (Try.prog.info? 3).map (fun i => (i.zero, i.size, i.bytes)) = some (some (.int .i64 0), 1, 8) := by kernel_rfl
/-- the places of the first lines -/
def placeVals (ls : Nat → kt.Ln) (far : Nat → Bool) (k : Nat) : List Value := (List.range k).map fun i => Value.int .i64 (al.place ls far i)
theorem placeVals_succ (ls : Nat → kt.Ln) (far : Nat → Bool) (k : Nat) : placeVals ls far (k + 1) = placeVals ls far k ++ [.int .i64 (al.place ls far k)] := by
  unfold placeVals
  rw [List.range_succ, List.map_append]
  rfl
structure Laid (w0 w : World) (Pb : Nat) (a : Option Addr) (n c : Nat) (fa : Option Addr) (fc : Nat) (ls : Nat → kt.Ln) (far : Nat → Bool) (pv : Value) (Bm k m : Nat) : Prop where
  plan : w.heap[Pb]? = some (.cells (planCells a n c fa n fc pv (.map (some Bm))) 62 (0, 0))
  own : w.ownsRow w0.heap.size 3 1 pv k (placeVals ls far k)
  map : kt.IntMap Try.prog 3 3 w Bm m (al.lab ls far m)
  base : w0.heap.size ≤ Bm
  but : kt.ButP (· = Pb) w0 w
theorem kt.grown_set (w : World) (B i : Nat) (v : Value) : w.grownBy (w.setCell ⟨B, i, none⟩ v) (some B) :=
  ⟨rfl, rfl, rfl, by simp [World.setCell], fun k _ hne => Below.heap_setCell _ _ _ _ (by intro e; subst e; exact hne rfl)⟩
set_option maxRecDepth 100000 in
set_option maxHeartbeats 3200000 in
theorem lay_any (Pb : Nat) (a : Option Addr) (n c : Nat) (fa : Option Addr) (fc : Nat) (ls : Nat → kt.Ln) (far : Nat → Bool) (pv0 mv0 : Value) (w : World) (hn : n ≤ 4000)
    (hp : w.heap[Pb]? = some (.cells (planCells a n c fa n fc pv0 mv0) 62 (0, 0))) (hl : kt.Lines w a n ls) (hf : FarAt w fa n far) :
    Calls Try.prog 42 #[.pointer (some ⟨Pb, 0, none⟩)] w fun e w' => e = .returned (.tuple #[]) ∧ ∃ pv Bm, Laid w w' Pb a n c fa fc ls far pv Bm (n + 1) n := by
  have HL := bl.hid hl
  have HF := bl.hid hf
  have HP := bl.hid hp
  have lP : Pb < w.heap.size := by rw [Array.getElem?_eq_some_iff] at hp; exact hp.1
  have c0 : w.cell? ⟨Pb, 0, none⟩ = some (.slice a n c) := (cell_of_row _ _ _ _ _ _ hp).trans rfl
  have c1 : w.cell? ⟨Pb, 1, none⟩ = some (.slice fa n fc) := (cell_of_row _ _ _ _ _ _ hp).trans rfl
  have c2 : w.cell? ⟨Pb, 2, none⟩ = some pv0 := (cell_of_row _ _ _ _ _ _ hp).trans rfl
  have c3 : w.cell? ⟨Pb, 3, none⟩ = some mv0 := (cell_of_row _ _ _ _ _ _ hp).trans rfl
  have f2 : w.frozen? ⟨Pb, 2, none⟩ = false := frozen_of_row _ _ _ _ _ hp
  have f3 : w.frozen? ⟨Pb, 3, none⟩ = false := frozen_of_row _ _ _ _ _ hp
  have hmm := @run_makeMap Try.prog
  clear hl hf hp
  go_enter Try.func42, Try.ntmps42
  go_wp2
  have hW : Laid w (((w.setCell ⟨Pb, 2, none⟩ (.slice none 0 0)).setCell ⟨Pb, 3, none⟩ (.map (some w.heap.size))).alloc (.map #[] 0)) Pb a n c fa fc ls far (.slice none 0 0) w.heap.size 0 0 := by
    have hz : ((w.setCell ⟨Pb, 2, none⟩ (.slice none 0 0)).setCell ⟨Pb, 3, none⟩ (.map (some w.heap.size))).heap.size = w.heap.size := by simp [World.setCell]
    refine ⟨?_, World.ownsRow_nil _ _ _ _, ?_, Nat.le_refl _, ((((kt.ButP.refl (fun x => x = Pb) w).setCell (p := ⟨Pb, 2, none⟩) (.inl rfl) _).setCell (p := ⟨Pb, 3, none⟩) (.inl rfl) _).alloc _)⟩
    · rw [heap_alloc_old _ _ (by rw [hz]; exact lP)]
      exact heap_setCell_same _ _ 3 _ _ _ (heap_setCell_same _ _ 2 _ _ _ HP.out)
    · have := kt.IntMap.made ((w.setCell ⟨Pb, 2, none⟩ (.slice none 0 0)).setCell ⟨Pb, 3, none⟩ (.map (some w.heap.size))) Try.prog 3 3
      rw [hz] at this
      exact this
  have HW := bl.hid hW
  clear hW c0 c1 c2 c3 f2 f3 hmm
  go_loopw [2, 17] (fun u v wr => ∃ k : Nat, k ≤ n ∧ v = .int .i64 k ∧ u = .int .i64 (al.place ls far k) ∧ ∃ pv, Laid w wr Pb a n c fa fc ls far pv w.heap.size k k) (fun _ v _ => n - (intOf v).toNat)
  case atStart => exact ⟨0, by omega, rfl, rfl, _, HW.out⟩
  case round =>
    obtain ⟨k, hk, rfl, rfl, pv, hL⟩ := hrel
    have HLd := bl.hid hL
    have hsz := hL.but.size
    have c0 : wr.cell? ⟨Pb, 0, none⟩ = some (.slice a n c) := (cell_of_row _ _ _ _ _ _ hL.plan).trans rfl
    have c1 : wr.cell? ⟨Pb, 1, none⟩ = some (.slice fa n fc) := (cell_of_row _ _ _ _ _ _ hL.plan).trans rfl
    have c2 : wr.cell? ⟨Pb, 2, none⟩ = some pv := (cell_of_row _ _ _ _ _ _ hL.plan).trans rfl
    have c3 : wr.cell? ⟨Pb, 3, none⟩ = some (.map (some w.heap.size)) := (cell_of_row _ _ _ _ _ _ hL.plan).trans rfl
    have f2 : wr.frozen? ⟨Pb, 2, none⟩ = false := frozen_of_row _ _ _ _ _ hL.plan
    have lp : Pb < wr.heap.size := by omega
    have hpb := al.place_bd ls far k
    obtain ⟨pb0, pb1⟩ := hpb
    obtain ⟨q, hq⟩ : ∃ q, al.place ls far k = q := ⟨_, rfl⟩
    rw [hq] at pb0 pb1 ⊢
    have HQ := bl.hid hq
    clear hL hq
    obtain ⟨zi, hzi, hz0, hz1, hz2⟩ := info_parts int_parts
    by_cases hlt : k < n
    · have hat : ∃ b off, a = some ⟨b, off, none⟩ ∧ b ≠ Pb ∧ kt.LnAt wr b (off + k * 7) (ls k) := by
        rcases HL.out.at' with h | ⟨b, off, e, h⟩
        · omega
        · have h1 := h k hlt
          have hne : b ≠ Pb := by
            rintro rfl
            have h2 := (cell_of_row _ _ (off + k * 7 + 6) _ _ _ HP.out).symm.trans h1.c6
            rw [Array.getElem?_eq_none (by show 4 ≤ _; omega)] at h2
            cases h2
          exact ⟨b, off, e, hne, h1.kept (HLd.out.but.block b hne h1.lt)⟩
      obtain ⟨b, off, rfl, hne, hla⟩ := hat
      obtain ⟨x, hx⟩ : ∃ x, ls k = x := ⟨_, rfl⟩
      rw [hx] at hla
      have HX := bl.hid hx
      have hok := HL.out.ok k hlt
      rw [hx] at hok
      have HOk := bl.hid hok
      clear hx hok
      obtain ⟨kd, lb, op, rd, rs1, rs2, im⟩ := x
      obtain ⟨l0, l1, l2, l3, l4, l5, l6⟩ := hla
      dsimp only at l0 l1 l2 l3 l4 l5 l6
      have lb0 : b < wr.heap.size := block_lt_of_cell l0
      have hown := HLd.out.own
      have HOw := bl.hid hown
      clear hown
      go_wp2_with (at_builtin; refine wpList_append_own _ rfl _ _ 43 rfl w.heap.size 3 zi (.int .i64 0) 1 8 Try.underlying43 hzi hz0 hz1 hz2 rfl (by decide) _ _ _ rfl ((HOw.out.alloc _).alloc _) ⟨wr.heap.size + 1, 0, none⟩ 1 1 [.int .i64 q] rfl rfl ?c1 ?c2 ?c3 ?c4 ?c5 ?_)
      case c1 =>
        intro j u hj
        match j, hj with
        | 0, hj =>
          simp at hj
          subst hj
          have := heap_alloc_new (wr.alloc (.cells #[.int .i64 kd, .int .i64 lb, .int .i64 op, .int .i64 rd, .int .i64 rs1, .int .i64 rs2, .int .i64 im] 35)) (.cells #[.int .i64 q] 3)
          rw [World.size_alloc] at this
          exact (cell_of_row _ _ _ _ _ _ this).trans rfl
        | j + 1, hj => simp at hj
      case c2 => intro u hu; simp at hu; subst hu; rfl
      case c3 => unfold maxLen; omega
      case c4 => omega
      case c5 => rw [World.size_alloc, World.size_alloc]; omega
      intro pv1 w1 hown1 hgrow _
      have hsl : ∃ g cap, pv1 = .slice (some ⟨g, 0, none⟩) (k + 1) cap := by
        rcases hown1.2 with ⟨_, h0⟩ | ⟨g, cap, cur, h1, _⟩
        · omega
        · exact ⟨g, cap, h1⟩
      obtain ⟨g1, cap1, rfl⟩ := hsl
      have hne2 : ∀ g, pv.ownBlock = some g → w.heap.size ≤ g ∧ g < wr.heap.size := fun g hg => HOw.out.lt g hg
      have hk2 : ∀ i, i < wr.heap.size → pv.ownBlock ≠ some i → w1.heap[i]? = wr.heap[i]? := fun i hi hg => by
        rw [hgrow.block i (by rw [World.size_alloc, World.size_alloc]; omega) (fun e => hg e.symm), heap_alloc_old _ _ (by rw [World.size_alloc]; omega), heap_alloc_old _ _ hi]
      have hP1 : w1.heap[Pb]? = some (.cells (planCells (some ⟨b, off, none⟩) n c fa n fc pv (.map (some w.heap.size))) 62 (0, 0)) := by
        rw [hk2 Pb lp (fun e => by have := hne2 _ e; omega)]
        exact HLd.out.plan
      have hX1 : w1.heap[wr.heap.size]? = some (.cells #[.int .i64 kd, .int .i64 lb, .int .i64 op, .int .i64 rd, .int .i64 rs1, .int .i64 rs2, .int .i64 im] 35 (0, 0)) := by
        rw [hgrow.block _ (by rw [World.size_alloc, World.size_alloc]; omega) (fun e => by have := hne2 _ e.symm; omega), heap_alloc_old _ _ (by rw [World.size_alloc]; omega), heap_alloc_new]
      have hM1 : kt.IntMap Try.prog 3 3 w1 w.heap.size k (al.lab ls far k) := by
        refine HLd.out.map.kept (hk2 _ HLd.out.map.lt (fun e => ?_))
        rcases HOw.out.2 with ⟨h1, h2⟩ | ⟨g, cap, cur, h1, h2, h3, h4⟩
        · rw [h1] at e; cases e
        · rw [h1] at e
          simp [Value.ownBlock] at e
          subst e
          exact HLd.out.map.is_map h3
      have hB1 : kt.ButP (fun x => x = Pb) w w1 := ((HLd.out.but.alloc _).alloc _).grown hgrow (fun g hg => .inr (hne2 g hg).1)
      have hs1 : wr.heap.size < w1.heap.size := by rw [Array.getElem?_eq_some_iff] at hX1; exact hX1.1
      have HOw1 : Hid (w1.ownsRow w.heap.size 3 1 (.slice (some ⟨g1, 0, none⟩) (k + 1) cap1) (k + 1) (placeVals ls far (k + 1))) := bl.hid (by
        have := hown1
        rw [placeVals_succ, HQ.out]
        exact this)
      have HP1 := bl.hid hP1
      have HX1 := bl.hid hX1
      have HM1 := bl.hid hM1
      have HB1 := bl.hid hB1
      have d0 : w1.cell? ⟨Pb, 0, none⟩ = some (.slice (some ⟨b, off, none⟩) n c) := (cell_of_row _ _ _ _ _ _ hP1).trans rfl
      have d1 : w1.cell? ⟨Pb, 1, none⟩ = some (.slice fa n fc) := (cell_of_row _ _ _ _ _ _ hP1).trans rfl
      have d2 : w1.cell? ⟨Pb, 2, none⟩ = some pv := (cell_of_row _ _ _ _ _ _ hP1).trans rfl
      have d3 : w1.cell? ⟨Pb, 3, none⟩ = some (.map (some w.heap.size)) := (cell_of_row _ _ _ _ _ _ hP1).trans rfl
      have g2 : w1.frozen? ⟨Pb, 2, none⟩ = false := frozen_of_row _ _ _ _ _ hP1
      have e0 : w1.cell? ⟨wr.heap.size, 0, none⟩ = some (.int .i64 kd) := (cell_of_row _ _ _ _ _ _ hX1).trans rfl
      have e1 : w1.cell? ⟨wr.heap.size, 1, none⟩ = some (.int .i64 lb) := (cell_of_row _ _ _ _ _ _ hX1).trans rfl
      have hPe : wr.heap.size ≠ Pb := by omega
      have lp1 : Pb < w1.heap.size := by omega
      have HS : Hid (∀ v, Laid w (w1.setCell ⟨Pb, 2, none⟩ v) Pb (some ⟨b, off, none⟩) n c fa fc ls far v w.heap.size 0 k ∨ True) := bl.hid fun v => .inr trivial
      have HPl : Hid (∀ v : Value, (w1.setCell ⟨Pb, 2, none⟩ v).heap[Pb]? = some (.cells (planCells (some ⟨b, off, none⟩) n c fa n fc v (.map (some w.heap.size))) 62 (0, 0))) := bl.hid fun v => heap_setCell_same _ _ 2 _ _ _ hP1
      have HBl : Hid (∀ v : Value, kt.ButP (fun x => x = Pb) w (w1.setCell ⟨Pb, 2, none⟩ v)) := bl.hid fun v => hB1.setCell (p := ⟨Pb, 2, none⟩) (.inl rfl) v
      clear c0 c1 c2 c3 f2 l0 l1 l2 l3 l4 l5 l6 hown1 hgrow hne2 hk2 hP1 hX1 hM1 hB1 hzi hz0 hz1 hz2
      have hpp : al.place ls far (k + 1) = q + al.size ls far k := by rw [al.place_succ, HQ.out]
      by_cases hkd : kd = 1
      · have hk1 : (kd == 1) = true := by simpa using hkd
        have hsz : al.size ls far k = 0 := by unfold al.size; rw [HX.out]; rw [if_pos hkd]
        have HSz := bl.hid (hpp.trans (by rw [hsz]))
        clear hkd hsz hpp
        go_wp2
        refine kt.forget (fun wf => wf.heap[Pb]? = some (.cells (planCells (some ⟨b, off, none⟩) n c fa n fc (.slice (some ⟨g1, 0, none⟩) (k + 1) cap1) (.map (some w.heap.size))) 62 (0, 0)) ∧ wf.heap[wr.heap.size]? = some (.cells #[.int .i64 kd, .int .i64 lb, .int .i64 op, .int .i64 rd, .int .i64 rs1, .int .i64 rs2, .int .i64 im] 35 (0, 0)) ∧ kt.IntMap Try.prog 3 3 wf w.heap.size k (al.lab ls far k) ∧ kt.ButP (fun x => x = Pb) w wf ∧ wf.ownsRow w.heap.size 3 1 (.slice (some ⟨g1, 0, none⟩) (k + 1) cap1) (k + 1) (placeVals ls far (k + 1)))
          ⟨HPl.out _, (Below.heap_setCell _ _ _ _ hPe).trans HX1.out, HM1.out.kept (Below.heap_setCell _ _ _ _ (by show w.heap.size ≠ Pb; omega)), HBl.out _, HOw1.out.kept (kt.grown_set _ _ _ _) (.inr (by have := HOw1.out.lt g1 rfl; simp [Value.ownBlock]; omega))⟩ ?_
        rintro wf ⟨hPf, hXf, hMf, hBf, hOf⟩
        have d3f : wf.cell? ⟨Pb, 3, none⟩ = some (.map (some w.heap.size)) := (cell_of_row _ _ _ _ _ _ hPf).trans rfl
        have e1f : wf.cell? ⟨wr.heap.size, 1, none⟩ = some (.int .i64 lb) := (cell_of_row _ _ _ _ _ _ hXf).trans rfl
        have HPf := bl.hid hPf
        have HXf := bl.hid hXf
        have HMf := bl.hid hMf
        have HBf := bl.hid hBf
        have HOf := bl.hid hOf
        clear hPf hXf hMf hBf hOf d0 d1 d2 d3 g2 e0 e1
        go_still_tail 7, (by kernel_rfl)
        change wpList _ _ _ _ _ wf.drew
        refine kt.wpList_intPut (P := Try.prog) (t := 60) (k := 3) (e := 3) rfl _ _ _ rfl w.heap.size k (al.lab ls far k) (HMf.out.kept rfl) Try.underlying3 Try.underlying60 Try.underlying3 (by unfold maxLen; omega) lb q rfl rfl rfl ?_ ?_ ?_
        · have := HOk.out.label
          unfold kt.i64ok at this
          dsimp only at this
          exact WalkArith.wf_i64 (by omega)
        · exact WalkArith.wf_i64 (by omega)
        intro w2 hM2 hg2
        have hg2' : wf.grownBy w2 (some w.heap.size) := ⟨hg2.os, hg2.tape, hg2.output, hg2.size, hg2.block⟩
        have hBm : Pb ≠ w.heap.size := by omega
        have hP2 : w2.heap[Pb]? = some (.cells (planCells (some ⟨b, off, none⟩) n c fa n fc (.slice (some ⟨g1, 0, none⟩) (k + 1) cap1) (.map (some w.heap.size))) 62 (0, 0)) := by
          have hl2 : Pb < wf.heap.size := by have := HPf.out; rw [Array.getElem?_eq_some_iff] at this; exact this.1
          rw [hg2'.block Pb hl2 (by intro e; injection e with e; exact hBm e)]
          exact HPf.out
        have hB2 : kt.ButP (fun x => x = Pb) w w2 := HBf.out.grown hg2' (fun g hg => .inr (by injection hg with hg; omega))
        have hO2 : w2.ownsRow w.heap.size 3 1 (.slice (some ⟨g1, 0, none⟩) (k + 1) cap1) (k + 1) (placeVals ls far (k + 1)) := by
          refine HOf.out.kept hg2' (.inr ?_)
          intro e
          simp [Value.ownBlock] at e
          subst e
          rcases HOf.out.2 with ⟨h1, h2⟩ | ⟨g, cap, cur, h1, h2, h3, h4⟩
          · cases h1
          · simp at h1
            rw [← h1.1] at h3
            exact HMf.out.is_map h3
        have hM2' : kt.IntMap Try.prog 3 3 w2 w.heap.size (k + 1) (al.lab ls far (k + 1)) := by
          have e : al.lab ls far (k + 1) = fun y => if y = lb then q else al.lab ls far k y := by
            funext y
            show (if (ls k).kind = 1 ∧ (ls k).label = y then al.place ls far k else al.lab ls far k y) = _
            rw [HX.out, HQ.out]
            have hkd : kd = 1 := by simpa using hk1
            by_cases hy : y = lb
            · rw [if_pos ⟨hkd, hy.symm⟩, if_pos hy]
            · rw [if_neg (fun h => hy h.2.symm), if_neg hy]
          rw [e]
          exact hM2
        have HL2 : Hid (Laid w w2 Pb (some ⟨b, off, none⟩) n c fa fc ls far (.slice (some ⟨g1, 0, none⟩) (k + 1) cap1) w.heap.size (k + 1) (k + 1)) := bl.hid ⟨hP2, hO2, hM2', Nat.le_refl _, hB2⟩
        clear hM2 hg2 hg2' hP2 hB2 hO2 hM2'
        go_wp2
        exact ⟨⟨k + 1, by omega, by go_num, by rw [HSz.out]; simp, _, HL2.out⟩, by simp [intOf]; omega⟩
      · have hk1 : (kd == 1) = false := by simpa using hkd
        obtain ⟨Bf, rfl, hfc⟩ := HF.out.blk (by omega)
        have hBfP : Bf ≠ Pb := by
          rintro rfl
          rw [HP.out] at hfc
          injection hfc with hfc
          injection hfc with h1 h2
          cases h2
        have hBl : Bf < w.heap.size := by rw [Array.getElem?_eq_some_iff] at hfc; exact hfc.1
        have hfc1 : w1.cell? ⟨Bf, k, none⟩ = some (.bool (far k)) := far_cell ((HB1.out.block Bf hBfP hBl).trans hfc) k hlt
        have hlab : al.lab ls far (k + 1) = al.lab ls far k := by
          funext y
          show (if (ls k).kind = 1 ∧ (ls k).label = y then al.place ls far k else al.lab ls far k y) = _
          rw [HX.out, if_neg (fun h => hkd h.1)]
        have HLn : Hid (Laid w (w1.setCell ⟨Pb, 2, none⟩ (.slice (some ⟨g1, 0, none⟩) (k + 1) cap1)) Pb (some ⟨b, off, none⟩) n c (some ⟨Bf, 0, none⟩) fc ls far (.slice (some ⟨g1, 0, none⟩) (k + 1) cap1) w.heap.size (k + 1) (k + 1)) := bl.hid (by
          refine ⟨HPl.out _, HOw1.out.kept (kt.grown_set _ _ _ _) (.inr (by have := HOw1.out.lt g1 rfl; simp [Value.ownBlock]; omega)), ?_, Nat.le_refl _, HBl.out _⟩
          rw [hlab]
          exact (HM1.out.kept (Below.heap_setCell _ _ _ _ (by show w.heap.size ≠ Pb; omega))).mono (by omega))
        clear hfc hlab
        by_cases hfr : far k = true
        · rw [hfr] at hfc1
          have hsz : al.size ls far k = 2 := by unfold al.size; rw [HX.out, hfr]; simp [hkd]
          have HSz := bl.hid (hpp.trans (by rw [hsz]))
          clear hkd hsz hpp hfr
          go_wp2
          exact ⟨⟨k + 1, by omega, by go_num, by rw [HSz.out]; go_num, _, HLn.out⟩, by simp [intOf]; omega⟩
        · have hfr : far k = false := by simpa using hfr
          rw [hfr] at hfc1
          have hsz : al.size ls far k = 1 := by unfold al.size; rw [HX.out, hfr]; simp [hkd]
          have HSz := bl.hid (hpp.trans (by rw [hsz]))
          clear hkd hsz hpp hfr
          go_wp2
          exact ⟨⟨k + 1, by omega, by go_num, by rw [HSz.out], _, HLn.out⟩, by simp [intOf]; omega⟩
    · obtain rfl : k = n := by omega
      have HOw := bl.hid HLd.out.own
      go_wp2_with (at_builtin; refine wpList_append_own _ rfl _ _ 43 rfl w.heap.size 3 zi (.int .i64 0) 1 8 Try.underlying43 hzi hz0 hz1 hz2 rfl (by decide) _ _ _ rfl (HOw.out.alloc _) ⟨wr.heap.size, 0, none⟩ 1 1 [.int .i64 q] rfl rfl ?d1 ?d2 ?d3 ?d4 ?d5 ?_)
      case d1 =>
        intro j u hj
        match j, hj with
        | 0, hj =>
          simp at hj
          subst hj
          exact (cell_of_row _ _ _ _ _ _ (heap_alloc_new wr (.cells #[.int .i64 q] 3))).trans rfl
        | j + 1, hj => simp at hj
      case d2 => intro u hu; simp at hu; subst hu; rfl
      case d3 => unfold maxLen; omega
      case d4 => omega
      case d5 => rw [World.size_alloc]; omega
      intro pv1 w1 hown1 hgrow _
      have hsl : ∃ g cap, pv1 = .slice (some ⟨g, 0, none⟩) (k + 1) cap := by
        rcases hown1.2 with ⟨_, h0⟩ | ⟨g, cap, cur, h1, _⟩
        · omega
        · exact ⟨g, cap, h1⟩
      obtain ⟨g1, cap1, rfl⟩ := hsl
      have hne2 : ∀ g, pv.ownBlock = some g → w.heap.size ≤ g ∧ g < wr.heap.size := fun g hg => HOw.out.lt g hg
      have hk2 : ∀ i, i < wr.heap.size → pv.ownBlock ≠ some i → w1.heap[i]? = wr.heap[i]? := fun i hi hg => by
        rw [hgrow.block i (by rw [World.size_alloc]; omega) (fun e => hg e.symm), heap_alloc_old _ _ hi]
      have hP1 : w1.heap[Pb]? = some (.cells (planCells a k c fa k fc pv (.map (some w.heap.size))) 62 (0, 0)) := by
        rw [hk2 Pb lp (fun e => by have := hne2 _ e; omega)]
        exact HLd.out.plan
      have hM1 : kt.IntMap Try.prog 3 3 w1 w.heap.size k (al.lab ls far k) := by
        refine HLd.out.map.kept (hk2 _ HLd.out.map.lt (fun e => ?_))
        rcases HOw.out.2 with ⟨h1, h2⟩ | ⟨g, cap, cur, h1, h2, h3, h4⟩
        · rw [h1] at e; cases e
        · rw [h1] at e
          simp [Value.ownBlock] at e
          subst e
          exact HLd.out.map.is_map h3
      have hB1 : kt.ButP (fun x => x = Pb) w w1 := (HLd.out.but.alloc _).grown hgrow (fun g hg => .inr (hne2 g hg).1)
      have HO2 : Hid (w1.ownsRow w.heap.size 3 1 (.slice (some ⟨g1, 0, none⟩) (k + 1) cap1) (k + 1) (placeVals ls far (k + 1))) := bl.hid (by
        have := hown1
        rw [placeVals_succ, HQ.out]
        exact this)
      have d2 : w1.cell? ⟨Pb, 2, none⟩ = some pv := (cell_of_row _ _ _ _ _ _ hP1).trans rfl
      have g2 : w1.frozen? ⟨Pb, 2, none⟩ = false := frozen_of_row _ _ _ _ _ hP1
      have HE : Hid (Laid w (w1.setCell ⟨Pb, 2, none⟩ (.slice (some ⟨g1, 0, none⟩) (k + 1) cap1)) Pb a k c fa fc ls far (.slice (some ⟨g1, 0, none⟩) (k + 1) cap1) w.heap.size (k + 1) k) := bl.hid (by
        refine ⟨heap_setCell_same _ _ 2 _ _ _ hP1, HO2.out.kept (kt.grown_set _ _ _ _) (.inr (by have := HO2.out.lt g1 rfl; simp [Value.ownBlock]; omega)), ?_, Nat.le_refl _, hB1.setCell (p := ⟨Pb, 2, none⟩) (.inl rfl) _⟩
        exact hM1.kept (Below.heap_setCell _ _ _ _ (by show w.heap.size ≠ Pb; omega)))
      clear c0 c1 c2 c3 f2 hown1 hgrow hne2 hk2 hP1 hM1 hB1 hzi hz0 hz1 hz2
      go_wp2
      go_end0
      exact ⟨rfl, _, _, HE.out⟩
end Go.Proofs.Ytbcflhpaafpndaa
