/- Assemble's first loop: all instructions. -/
import Derived.Test.YtbcflhpaafpndaaAsIns
import Derived.Deep.RegionHeld3
import Derived.Deep.AppendLies
import Derived.Deep.Cut
namespace Go.Proofs.Ytbcflhpaafpndaa
open Go.RowKit
set_option linter.unusedVariables false
theorem rv_parts : (Try.prog.info? 29).map (fun i => (i.zero, i.size, i.bytes)) = some (some (.agg #[.int .i64 0, .int .i64 0, .int .i64 0, .int .i64 0, .int .i64 0]), 5, 40) := by kernel_rfl
theorem u32_parts : (Try.prog.info? 32).map (fun i => (i.zero, i.size, i.bytes)) = some (some (.int .u32 0), 1, 4) := by kernel_rfl
/-- what Assemble answers -/
structure AsmPost (n : Nat) (ls : Nat → kt.Ln) (w : World) (e : Ending) (w' : World) : Prop where
  below : Below w.heap.size w w'
  bad : al.check ls n ≠ 0 → e = .returned (.tuple #[.slice none 0 0, .int .i64 (al.check ls n)])
  good : al.check ls n = 0 → ∃ base pv, e = .returned (.tuple #[pv, .int .i64 0]) ∧ w.heap.size ≤ base ∧ w'.ownsRow base 32 1 pv (al.inss ls n (al.farE ls n) n).length (al.wordsV (al.inss ls n (al.farE ls n) n))
theorem own_heap {w w' : World} {base n size : Nat} {e : TypeId} {v : Value} {xs : List Value} (h : w.ownsRow base e size v n xs) (hh : w'.heap = w.heap) : w'.ownsRow base e size v n xs := by
  unfold World.ownsRow at h ⊢
  rw [hh]
  exact h
theorem PlanAt.heap {w w' : World} {Pb : Nat} {a : Option Addr} {n c : Nat} {fa : Option Addr} {fc : Nat} {ls : Nat → kt.Ln} {far : Nat → Bool} {base : Nat} {pv : Value} {Bm : Nat} (h : PlanAt w Pb a n c fa fc ls far base pv Bm) (hh : w'.heap = w.heap) : PlanAt w' Pb a n c fa fc ls far base pv Bm :=
  ⟨by rw [hh]; exact h.plan, own_heap h.own hh, h.map.kept (by rw [hh]), h.lines.keptBy fun _ _ _ _ => by rw [hh]⟩
theorem own_cell5 {w : World} {base n : Nat} {e : TypeId} {v : Value} {l : List kt.In5} (h : w.ownsRow base e 5 v n (al.flat l)) (hn : 0 < n) : ∃ g cap, v = .slice (some ⟨g, 0, none⟩) n cap ∧ base ≤ g ∧ g < w.heap.size ∧ ∀ j x, l[j]? = some x → w.cell? ⟨g, j * 5, none⟩ = some (.int .i64 x.op) ∧ w.cell? ⟨g, j * 5 + 1, none⟩ = some (.int .i64 x.rd) ∧ w.cell? ⟨g, j * 5 + 2, none⟩ = some (.int .i64 x.rs1) ∧ w.cell? ⟨g, j * 5 + 3, none⟩ = some (.int .i64 x.rs2) ∧ w.cell? ⟨g, j * 5 + 4, none⟩ = some (.int .i64 x.im) := by
  rcases h.2 with ⟨_, h0⟩ | ⟨g, cap, cur, h1, h2, h3, h4, h5, h6, h7⟩
  · omega
  · have hc : ∀ i u, (al.flat l)[i]? = some u → w.cell? ⟨g, i, none⟩ = some u := by
      intro i u hu
      rw [cell_of_row _ _ _ _ _ _ h3]
      rw [← h7] at hu
      rw [List.getElem?_take] at hu
      split at hu
      · simpa using hu
      · cases hu
    refine ⟨g, cap, h1, h2, (Array.getElem?_eq_some_iff.1 h3).1, fun j x hx => ?_⟩
    have hf := al.flat_at l j x hx
    exact ⟨hc _ _ ((hf 0 (by omega)).trans rfl), hc _ _ ((hf 1 (by omega)).trans rfl), hc _ _ ((hf 2 (by omega)).trans rfl), hc _ _ ((hf 3 (by omega)).trans rfl), hc _ _ ((hf 4 (by omega)).trans rfl)⟩
theorem own_below {w w' : World} {base n size : Nat} {e : TypeId} {v : Value} {xs : List Value} (h : w.ownsRow base e size v n xs) (hb : Below w.heap.size w w') : w'.ownsRow base e size v n xs := by
  refine h.kept (row := none) ⟨hb.os, hb.tape, hb.output, hb.size, fun k hk _ => hb.block k hk⟩ ?_
  cases hv : v.ownBlock
  · exact .inl rfl
  · exact .inr (by simp)
theorem own_set {w w1 : World} {base n size : Nat} {e : TypeId} {v : Value} {xs : List Value} (h : w.ownsRow base e size v n xs) (hh : w1.heap = w.heap) (B i : Nat) (u : Value) (hne : v.ownBlock ≠ some B) : (w1.setCell ⟨B, i, none⟩ u).ownsRow base e size v n xs :=
  (own_heap h hh).kept (kt.grown_set w1 B i u) (.inr hne)
theorem below_set {B : Nat} {a w : World} (h : Below B a w) (m : Nat) (X i : Nat) (u : Value) (hX : B ≤ X) : Below B a ((w.drewN m).setCell ⟨X, i, none⟩ u) := (h.drewN' m).setCell (p := ⟨X, i, none⟩) hX u
theorem own_shape {w : World} {base n size : Nat} {e : TypeId} {v : Value} {xs : List Value} (h : w.ownsRow base e size v n xs) : ∃ ga cap, v = .slice ga n cap := by
  rcases h.2 with ⟨rfl, rfl⟩ | ⟨g, cap, cur, h1, h2⟩
  · exact ⟨none, 0, rfl⟩
  · exact ⟨_, cap, h1⟩
set_option maxRecDepth 100000 in
set_option maxHeartbeats 1600000 in
theorem assemble_any (a : Option Addr) (n c : Nat) (ls : Nat → kt.Ln) (w : World) (hl : kt.Lines w a n ls) :
    Calls Try.prog 7 #[.slice a n c] w (AsmPost n ls w) := by
  have HL := bl.hid hl
  have HC := bl.hid (acheck_any a n c ls w hl)
  clear hl
  obtain ⟨q, hq⟩ : ∃ q, al.check ls n = q := ⟨_, rfl⟩
  rw [hq] at HC
  have HQ := bl.hid hq
  go_enter Try.func7, Try.ntmps7
  go_wp2_with fail
  refine HC.out.mono ?_
  rintro e w1 ⟨rfl, hb⟩
  have HB := bl.hid hb
  have hs := hb.size
  clear hb
  by_cases h0 : q = 0
  rotate_left
  · have hq0 : (q == 0) = false := by simpa using h0
    have HE : Hid (AsmPost n ls w (.returned (.tuple #[.slice none 0 0, .int .i64 q])) w1) := bl.hid ⟨HB.out, fun _ => by rw [HQ.out], fun h => absurd (HQ.out.symm.trans h) h0⟩
    clear hq h0
    go_wp2
    go_ret2
    exact HE.out
  subst h0
  have hgd := al.good_of ls n hq
  have hn := hgd.small
  have HGd := bl.hid hgd
  have HP := bl.hid (planned_any a n c ls w1 hn (HL.out.keep HB.out))
  clear hq hgd HC
  go_wp2_with fail
  refine HP.out.mono ?_
  rintro e w2 ⟨Pb, fa, fc, base, pv, Bm, rfl, h1, h2, hpl, hfa, hb2⟩
  clear HP
  have HB2 : Hid (Below w.heap.size w w2) := bl.hid (HB.out.trans (hb2.mono hs))
  have hs2 : w.heap.size ≤ w2.heap.size := HB2.out.size
  have HPl := bl.hid hpl
  have HFa := bl.hid hfa
  have hL2 : kt.Lines w2 a n ls := hpl.lines
  have HL2 := bl.hid hL2
  have lPb : Pb < w2.heap.size := by have := hpl.plan; rw [Array.getElem?_eq_some_iff] at this; exact this.1
  obtain ⟨far, hfr⟩ : ∃ far, al.farE ls n = far := ⟨_, rfl⟩
  rw [hfr] at HPl HFa
  have HFr := bl.hid hfr
  clear h1 h2 hpl hfa hb2 HL hL2 HB hs hfr
  go_wp2
  go_loopw [6, 24] (fun u v wr => ∃ k : Nat, k ≤ n ∧ v = .int .i64 k ∧ Below w2.heap.size w2 wr ∧ wr.ownsRow w2.heap.size 29 5 u (al.inss ls n far k).length (al.flat (al.inss ls n far k))) (fun _ v _ => n - (intOf v).toNat)
  case atStart => exact ⟨0, by omega, rfl, Below.refl _ _, World.ownsRow_nil _ _ _ _⟩
  case round =>
    obtain ⟨k, hk, rfl, hb, ho⟩ := hrel
    have HB := bl.hid hb
    have HO := bl.hid ho
    have hsz := hb.size
    clear hb ho
    by_cases hlt : k < n
    · have hat : ∃ b off, a = some ⟨b, off, none⟩ ∧ kt.LnAt wr b (off + k * 7) (ls k) := by
        rcases (HL2.out.keep HB.out).at' with h | ⟨b, off, e, h⟩
        · omega
        · exact ⟨b, off, e, h k hlt⟩
      obtain ⟨b, off, rfl, hla⟩ := hat
      obtain ⟨x, hx⟩ : ∃ x, ls k = x := ⟨_, rfl⟩
      rw [hx] at hla
      have HX := bl.hid hx
      have hok := HL2.out.ok k hlt
      rw [hx] at hok
      have HOk := bl.hid hok
      clear hx hok
      obtain ⟨kd, lb, op, rd, rs1, rs2, im⟩ := x
      obtain ⟨l0, l1, l2, l3, l4, l5, l6⟩ := hla
      dsimp only at l0 l1 l2 l3 l4 l5 l6
      have lb0 : b < wr.heap.size := block_lt_of_cell l0
      by_cases hkd : kd = 1
      · subst hkd
        have HI : Hid (al.inss ls n far (k + 1) = al.inss ls n far k) := bl.hid (by
          show al.inss ls n far k ++ al.insOf ls n far k = _
          unfold al.insOf
          rw [HX.out, if_pos rfl, List.append_nil])
        go_wp2
        refine ⟨⟨k + 1, by omega, by go_num, (HB.out.alloc (by omega) _).alloc (by rw [World.size_alloc]; omega) _, ?_⟩, by simp [intOf]; omega⟩
        rw [HI.out]
        exact (HO.out.alloc _).alloc _
      · have hk1 : (kd == 1) = false := by simpa using hkd
        obtain ⟨Bf, hfe, cf⟩ := (HFa.out.keepB HB.out).cell k hlt
        subst hfe
        have cpl : wr.cell? ⟨Pb, 1, none⟩ = some (.slice (some ⟨Bf, 0, none⟩) n fc) := (cell_of_row _ _ _ _ _ _ (HPl.out.keepB HB.out).plan).trans rfl
        have lPb1 : Pb < wr.heap.size := by omega
        have lBf : Bf < wr.heap.size := block_lt_of_cell cf
        obtain ⟨p, hp⟩ : ∃ p, far k = p := ⟨_, rfl⟩
        rw [hp] at cf
        have HFp := bl.hid hp
        clear hp
        cases p
        · by_cases hkd2 : kd = 2
          · subst hkd2
            obtain ⟨D, hD⟩ : ∃ D, al.dist ls n far k = D := ⟨_, rfl⟩
            have HDE := bl.hid hD
            clear hD
            have HBx : Hid (Below w2.heap.size w2 ((wr.alloc (.cells #[.int .i64 2, .int .i64 lb, .int .i64 op, .int .i64 rd, .int .i64 rs1, .int .i64 rs2, .int .i64 im] 35)).alloc (.cells #[.int .i64 op, .int .i64 rd, .int .i64 rs1, .int .i64 rs2, .int .i64 im] 29))) := bl.hid ((HB.out.alloc (by omega) _).alloc (by rw [World.size_alloc]; omega) _)
            have hyx := heap_alloc_new (wr.alloc (.cells #[.int .i64 2, .int .i64 lb, .int .i64 op, .int .i64 rd, .int .i64 rs1, .int .i64 rs2, .int .i64 im] 35)) (.cells #[.int .i64 op, .int .i64 rd, .int .i64 rs1, .int .i64 rs2, .int .i64 im] 29)
            rw [World.size_alloc] at hyx
            have HG : Hid (∀ wx : World, wx.heap = ((wr.alloc (.cells #[.int .i64 2, .int .i64 lb, .int .i64 op, .int .i64 rd, .int .i64 rs1, .int .i64 rs2, .int .i64 im] 35)).alloc (.cells #[.int .i64 op, .int .i64 rd, .int .i64 rs1, .int .i64 rs2, .int .i64 im] 29)).heap → Calls Try.prog 25 #[.pointer (some ⟨Pb, 0, none⟩), .int .i64 k] wx fun e w' => e = .returned (.int .i64 D) ∧ ∃ m, w' = wx.drewN m) := bl.hid (by
              intro wx e
              have := goes_any Pb (some ⟨b, off, none⟩) n c (some ⟨Bf, 0, none⟩) fc ls far base pv Bm k wx hn hlt ((HPl.out.keepB HBx.out).heap e)
              rw [HDE.out] at this
              exact this)
            have HYx := bl.hid hyx
            clear hyx
            go_wp2_with fail
            refine (HG.out _ (by rfl)).mono ?_
            rintro e w' ⟨rfl, m, rfl⟩
            go_upto_region 16 with (fail)
            clear l0 l1 l2 l3 l4 l5 l6 cpl cf
            refine kt.forget (fun wf => Below w2.heap.size w2 wf ∧ wf.heap[wr.heap.size + 1]? = some (.cells #[.int .i64 op, .int .i64 rd, .int .i64 rs1, .int .i64 rs2, .int .i64 D] 29 (0, 0)) ∧ wf.ownsRow w2.heap.size 29 5 u6 (al.inss ls n far k).length (al.flat (al.inss ls n far k)) ∧ ∀ g, u6.ownBlock = some g → g < wr.heap.size) ⟨below_set HBx.out m _ _ _ (by omega), heap_setCell_same _ _ 4 _ _ _ HYx.out, own_set ((HO.out.alloc _).alloc _) (by rfl) _ _ _ (fun e => by have := (HO.out.lt _ e).2; omega), fun g hg => (HO.out.lt g hg).2⟩ ?_
            rintro wf ⟨hBf, hYf, hOf, hlf⟩
            have lf : wr.heap.size + 1 < wf.heap.size := by rw [Array.getElem?_eq_some_iff] at hYf; exact hYf.1
            have hBfs := hBf.size
            have y0 : wf.cell? ⟨wr.heap.size + 1, 0, none⟩ = some (.int .i64 op) := (cell_of_row _ _ _ _ _ _ hYf).trans rfl
            have y1 : wf.cell? ⟨wr.heap.size + 1, 1, none⟩ = some (.int .i64 rd) := (cell_of_row _ _ _ _ _ _ hYf).trans rfl
            have y2 : wf.cell? ⟨wr.heap.size + 1, 2, none⟩ = some (.int .i64 rs1) := (cell_of_row _ _ _ _ _ _ hYf).trans rfl
            have y3 : wf.cell? ⟨wr.heap.size + 1, 3, none⟩ = some (.int .i64 rs2) := (cell_of_row _ _ _ _ _ _ hYf).trans rfl
            have y4 : wf.cell? ⟨wr.heap.size + 1, 4, none⟩ = some (.int .i64 D) := (cell_of_row _ _ _ _ _ _ hYf).trans rfl
            have hlen := al.inss_two ls n far k
            obtain ⟨zi, hzi, hz0, hz1, hz2⟩ := info_parts rv_parts
            have HOf := bl.hid hOf
            have HBf := bl.hid hBf
            have HNw := bl.hid (World.news_of_block (heap_alloc_new wf (.cells #[.int .i64 op, .int .i64 rd, .int .i64 rs1, .int .i64 rs2, .int .i64 D] 29)))
            have HOne : Hid (∀ u ∈ [Value.int .i64 op, .int .i64 rd, .int .i64 rs1, .int .i64 rs2, .int .i64 D], u.oneCell' = true) := bl.hid (by intro u hu; simp at hu; rcases hu with rfl | rfl | rfl | rfl | rfl <;> rfl)
            have HZi : Hid (Try.prog.info? 29 = some zi ∧ zi.zero = some (.agg #[.int .i64 0, .int .i64 0, .int .i64 0, .int .i64 0, .int .i64 0]) ∧ zi.size = 5 ∧ zi.bytes = 40) := bl.hid ⟨hzi, hz0, hz1, hz2⟩
            clear hBf hYf hOf hzi hz0 hz1 hz2
            go_wp2_with (at_builtin; refine wpList_append_lies _ rfl _ _ 58 rfl w2.heap.size 29 zi (.agg #[.int .i64 0, .int .i64 0, .int .i64 0, .int .i64 0, .int .i64 0]) 5 40 Try.underlying58 HZi.out.1 HZi.out.2.1 HZi.out.2.2.1 HZi.out.2.2.2 rfl (by decide) u6 (al.inss ls n far k).length (al.flat (al.inss ls n far k)) rfl (HOf.out.alloc _) ⟨wf.heap.size, 0, none⟩ 1 1 [.int .i64 op, .int .i64 rd, .int .i64 rs1, .int .i64 rs2, .int .i64 D] rfl rfl HNw.out HOne.out (by omega) ?c3 ?c4 ?c5 (wf.heap.size + 1) (World.size_alloc _ _) ?_)
            case c3 => unfold maxLen; omega
            case c4 => omega
            case c5 => omega
            intro g cap w' h1 h2 h3 h4
            have HI : Hid (al.inss ls n far (k + 1) = al.inss ls n far k ++ [⟨op, rd, rs1, rs2, D⟩]) := bl.hid (by
              show al.inss ls n far k ++ al.insOf ls n far k = _
              unfold al.insOf
              rw [HX.out, if_neg (by dsimp only; omega), if_neg (by rw [HFp.out]; simp), if_pos rfl, HDE.out])
            have HO' : Hid (w'.ownsRow w2.heap.size 29 5 (.slice (some ⟨g, 0, none⟩) ((al.inss ls n far k).length + 1) cap) (al.inss ls n far (k + 1)).length (al.flat (al.inss ls n far (k + 1)))) := bl.hid (by
              rw [HI.out, al.flat_app, List.length_append]
              exact h1)
            have HB' : Hid (Below w2.heap.size w2 w') := bl.hid ((HBf.out.alloc (by omega) _).grown h2 (by rw [World.size_alloc]; omega) (fun j hj => (HO.out.lt j hj).1))
            clear h1 h2 h3 h4
            go_wp2
            exact ⟨⟨k + 1, by omega, by go_num, HB'.out, HO'.out⟩, by simp [intOf]; omega⟩
          · have hk2 : (kd == 2) = false := by simpa using hkd2
            have HBx : Hid (Below w2.heap.size w2 ((wr.alloc (.cells #[.int .i64 kd, .int .i64 lb, .int .i64 op, .int .i64 rd, .int .i64 rs1, .int .i64 rs2, .int .i64 im] 35)).alloc (.cells #[.int .i64 op, .int .i64 rd, .int .i64 rs1, .int .i64 rs2, .int .i64 im] 29))) := bl.hid ((HB.out.alloc (by omega) _).alloc (by rw [World.size_alloc]; omega) _)
            have hyx := heap_alloc_new (wr.alloc (.cells #[.int .i64 kd, .int .i64 lb, .int .i64 op, .int .i64 rd, .int .i64 rs1, .int .i64 rs2, .int .i64 im] 35)) (.cells #[.int .i64 op, .int .i64 rd, .int .i64 rs1, .int .i64 rs2, .int .i64 im] 29)
            rw [World.size_alloc] at hyx
            go_upto_region 16 with (fail)
            clear l0 l1 l2 l3 l4 l5 l6 cpl cf
            refine kt.forget (fun wf => Below w2.heap.size w2 wf ∧ wf.heap[wr.heap.size + 1]? = some (.cells #[.int .i64 op, .int .i64 rd, .int .i64 rs1, .int .i64 rs2, .int .i64 im] 29 (0, 0)) ∧ wf.ownsRow w2.heap.size 29 5 u6 (al.inss ls n far k).length (al.flat (al.inss ls n far k)) ∧ ∀ g, u6.ownBlock = some g → g < wr.heap.size) ⟨HBx.out, hyx, (HO.out.alloc _).alloc _, fun g hg => (HO.out.lt g hg).2⟩ ?_
            rintro wf ⟨hBf, hYf, hOf, hlf⟩
            have lf : wr.heap.size + 1 < wf.heap.size := by rw [Array.getElem?_eq_some_iff] at hYf; exact hYf.1
            have hBfs := hBf.size
            have y0 : wf.cell? ⟨wr.heap.size + 1, 0, none⟩ = some (.int .i64 op) := (cell_of_row _ _ _ _ _ _ hYf).trans rfl
            have y1 : wf.cell? ⟨wr.heap.size + 1, 1, none⟩ = some (.int .i64 rd) := (cell_of_row _ _ _ _ _ _ hYf).trans rfl
            have y2 : wf.cell? ⟨wr.heap.size + 1, 2, none⟩ = some (.int .i64 rs1) := (cell_of_row _ _ _ _ _ _ hYf).trans rfl
            have y3 : wf.cell? ⟨wr.heap.size + 1, 3, none⟩ = some (.int .i64 rs2) := (cell_of_row _ _ _ _ _ _ hYf).trans rfl
            have y4 : wf.cell? ⟨wr.heap.size + 1, 4, none⟩ = some (.int .i64 im) := (cell_of_row _ _ _ _ _ _ hYf).trans rfl
            have hlen := al.inss_two ls n far k
            obtain ⟨zi, hzi, hz0, hz1, hz2⟩ := info_parts rv_parts
            have HOf := bl.hid hOf
            have HBf := bl.hid hBf
            have HNw := bl.hid (World.news_of_block (heap_alloc_new wf (.cells #[.int .i64 op, .int .i64 rd, .int .i64 rs1, .int .i64 rs2, .int .i64 im] 29)))
            have HOne : Hid (∀ u ∈ [Value.int .i64 op, .int .i64 rd, .int .i64 rs1, .int .i64 rs2, .int .i64 im], u.oneCell' = true) := bl.hid (by intro u hu; simp at hu; rcases hu with rfl | rfl | rfl | rfl | rfl <;> rfl)
            have HZi : Hid (Try.prog.info? 29 = some zi ∧ zi.zero = some (.agg #[.int .i64 0, .int .i64 0, .int .i64 0, .int .i64 0, .int .i64 0]) ∧ zi.size = 5 ∧ zi.bytes = 40) := bl.hid ⟨hzi, hz0, hz1, hz2⟩
            clear hBf hYf hOf hzi hz0 hz1 hz2
            go_wp2_with (at_builtin; refine wpList_append_lies _ rfl _ _ 58 rfl w2.heap.size 29 zi (.agg #[.int .i64 0, .int .i64 0, .int .i64 0, .int .i64 0, .int .i64 0]) 5 40 Try.underlying58 HZi.out.1 HZi.out.2.1 HZi.out.2.2.1 HZi.out.2.2.2 rfl (by decide) u6 (al.inss ls n far k).length (al.flat (al.inss ls n far k)) rfl (HOf.out.alloc _) ⟨wf.heap.size, 0, none⟩ 1 1 [.int .i64 op, .int .i64 rd, .int .i64 rs1, .int .i64 rs2, .int .i64 im] rfl rfl HNw.out HOne.out (by omega) ?c3 ?c4 ?c5 (wf.heap.size + 1) (World.size_alloc _ _) ?_)
            case c3 => unfold maxLen; omega
            case c4 => omega
            case c5 => omega
            intro g cap w' h1 h2 h3 h4
            have HI : Hid (al.inss ls n far (k + 1) = al.inss ls n far k ++ [⟨op, rd, rs1, rs2, im⟩]) := bl.hid (by
              show al.inss ls n far k ++ al.insOf ls n far k = _
              unfold al.insOf
              rw [HX.out, if_neg (by dsimp only; omega), if_neg (by rw [HFp.out]; simp), if_neg (by dsimp only; omega)]
              rfl)
            have HO' : Hid (w'.ownsRow w2.heap.size 29 5 (.slice (some ⟨g, 0, none⟩) ((al.inss ls n far k).length + 1) cap) (al.inss ls n far (k + 1)).length (al.flat (al.inss ls n far (k + 1)))) := bl.hid (by
              rw [HI.out, al.flat_app, List.length_append]
              exact h1)
            have HB' : Hid (Below w2.heap.size w2 w') := bl.hid ((HBf.out.alloc (by omega) _).grown h2 (by rw [World.size_alloc]; omega) (fun j hj => (HO.out.lt j hj).1))
            clear h1 h2 h3 h4
            go_wp2
            exact ⟨⟨k + 1, by omega, by go_num, HB'.out, HO'.out⟩, by simp [intOf]; omega⟩
        · have hk2 : kd = 2 := by
            have := (al.farE_lt ls n k (by rw [HFr.out]; exact HFp.out)).2
            unfold al.cand at this
            rw [Bool.and_eq_true, decide_eq_true_eq, HX.out] at this
            exact this.1
          have HIv := bl.hid (fun w => inverse_any op (by have := HOk.out.op; unfold kt.i64ok at this; dsimp only at this; omega) (by have := HOk.out.op; unfold kt.i64ok at this; dsimp only at this; omega) w)
          obtain ⟨iv, hiv⟩ : ∃ iv, al.inv op = iv := ⟨_, rfl⟩
          rw [hiv] at HIv
          have HIvE := bl.hid hiv
          clear hiv
          subst hk2
          go_wp2_with fail
          refine (HIv.out _).mono ?_
          rintro e wy ⟨rfl, rfl⟩
          go_wp2
          obtain ⟨D, hD⟩ : ∃ D, al.dist ls n far k = D := ⟨_, rfl⟩
          have hDb := al.dist_bd ls n far k (by omega)
          rw [hD] at hDb
          obtain ⟨hD0, hD1⟩ := hDb
          have HDE := bl.hid hD
          clear hD l0 l1 l2 l3 l4 l5 l6 cpl cf
          have HBx : Hid (Below w2.heap.size w2 ((wr.alloc (.cells #[.int .i64 2, .int .i64 lb, .int .i64 op, .int .i64 rd, .int .i64 rs1, .int .i64 rs2, .int .i64 im] 35)).alloc (.cells #[.int .i64 iv, .int .i64 rd, .int .i64 rs1, .int .i64 rs2, .int .i64 8] 29))) := bl.hid ((HB.out.alloc (by omega) _).alloc (by rw [World.size_alloc]; omega) _)
          have hyx := heap_alloc_new (wr.alloc (.cells #[.int .i64 2, .int .i64 lb, .int .i64 op, .int .i64 rd, .int .i64 rs1, .int .i64 rs2, .int .i64 im] 35)) (.cells #[.int .i64 iv, .int .i64 rd, .int .i64 rs1, .int .i64 rs2, .int .i64 8] 29)
          rw [World.size_alloc] at hyx
          refine kt.forget (fun wf => Below w2.heap.size w2 wf ∧ wf.heap[wr.heap.size + 1]? = some (.cells #[.int .i64 iv, .int .i64 rd, .int .i64 rs1, .int .i64 rs2, .int .i64 8] 29 (0, 0)) ∧ wf.ownsRow w2.heap.size 29 5 u6 (al.inss ls n far k).length (al.flat (al.inss ls n far k)) ∧ ∀ g, u6.ownBlock = some g → g < wr.heap.size) ⟨HBx.out, hyx, (HO.out.alloc _).alloc _, fun g hg => (HO.out.lt g hg).2⟩ ?_
          rintro wf ⟨hBf, hYf, hOf, hlf⟩
          have lf : wr.heap.size + 1 < wf.heap.size := by rw [Array.getElem?_eq_some_iff] at hYf; exact hYf.1
          have hBfs := hBf.size
          have HS1 : Hid (∀ wx : World, wx.heap = wf.heap → wx.cell? ⟨wr.heap.size + 1, 0, none⟩ = some (.int .i64 iv) ∧ wx.cell? ⟨wr.heap.size + 1, 1, none⟩ = some (.int .i64 rd) ∧ wx.cell? ⟨wr.heap.size + 1, 2, none⟩ = some (.int .i64 rs1) ∧ wx.cell? ⟨wr.heap.size + 1, 3, none⟩ = some (.int .i64 rs2) ∧ wx.cell? ⟨wr.heap.size + 1, 4, none⟩ = some (.int .i64 8)) := bl.hid (by
            intro wx e
            have hy : wx.heap[wr.heap.size + 1]? = some (.cells #[.int .i64 iv, .int .i64 rd, .int .i64 rs1, .int .i64 rs2, .int .i64 8] 29 (0, 0)) := (by rw [e]; exact hYf)
            exact ⟨(cell_of_row _ _ _ _ _ _ hy).trans rfl, (cell_of_row _ _ _ _ _ _ hy).trans rfl, (cell_of_row _ _ _ _ _ _ hy).trans rfl, (cell_of_row _ _ _ _ _ _ hy).trans rfl, (cell_of_row _ _ _ _ _ _ hy).trans rfl⟩)
          have HS2 : Hid (∀ (wx : World) (o : Obj), wx.heap = (wf.alloc o).heap → wx.cell? ⟨wr.heap.size + 1, 0, none⟩ = some (.int .i64 iv) ∧ wx.cell? ⟨wr.heap.size + 1, 1, none⟩ = some (.int .i64 rd) ∧ wx.cell? ⟨wr.heap.size + 1, 2, none⟩ = some (.int .i64 rs1) ∧ wx.cell? ⟨wr.heap.size + 1, 3, none⟩ = some (.int .i64 rs2) ∧ wx.cell? ⟨wr.heap.size + 1, 4, none⟩ = some (.int .i64 8)) := bl.hid (by
            intro wx o e
            have hy : wx.heap[wr.heap.size + 1]? = some (.cells #[.int .i64 iv, .int .i64 rd, .int .i64 rs1, .int .i64 rs2, .int .i64 8] 29 (0, 0)) := (by rw [e, heap_alloc_old _ _ lf]; exact hYf)
            exact ⟨(cell_of_row _ _ _ _ _ _ hy).trans rfl, (cell_of_row _ _ _ _ _ _ hy).trans rfl, (cell_of_row _ _ _ _ _ _ hy).trans rfl, (cell_of_row _ _ _ _ _ _ hy).trans rfl, (cell_of_row _ _ _ _ _ _ hy).trans rfl⟩)
          have HS3 : Hid (∀ (wx : World) (o : Obj) (wy : World), wx.grownBy wy u6.ownBlock → wx.heap = (wf.alloc o).heap → wy.cell? ⟨wr.heap.size + 1, 0, none⟩ = some (.int .i64 iv) ∧ wy.cell? ⟨wr.heap.size + 1, 1, none⟩ = some (.int .i64 rd) ∧ wy.cell? ⟨wr.heap.size + 1, 2, none⟩ = some (.int .i64 rs1) ∧ wy.cell? ⟨wr.heap.size + 1, 3, none⟩ = some (.int .i64 rs2) ∧ wy.cell? ⟨wr.heap.size + 1, 4, none⟩ = some (.int .i64 8)) := bl.hid (by
            intro wx o wy hg e
            have hy : wy.heap[wr.heap.size + 1]? = some (.cells #[.int .i64 iv, .int .i64 rd, .int .i64 rs1, .int .i64 rs2, .int .i64 8] 29 (0, 0)) := (by
              rw [hg.block (wr.heap.size + 1) (by rw [e, World.size_alloc]; omega) (fun e => by have := hlf _ e.symm; omega), e, heap_alloc_old _ _ lf]; exact hYf)
            exact ⟨(cell_of_row _ _ _ _ _ _ hy).trans rfl, (cell_of_row _ _ _ _ _ _ hy).trans rfl, (cell_of_row _ _ _ _ _ _ hy).trans rfl, (cell_of_row _ _ _ _ _ _ hy).trans rfl, (cell_of_row _ _ _ _ _ _ hy).trans rfl⟩)
          have HG : Hid (∀ wx : World, wx.heap = wf.heap → Calls Try.prog 25 #[.pointer (some ⟨Pb, 0, none⟩), .int .i64 k] wx fun e w' => e = .returned (.int .i64 D) ∧ ∃ m, w' = wx.drewN m) := bl.hid (by
            intro wx e
            have := goes_any Pb (some ⟨b, off, none⟩) n c (some ⟨Bf, 0, none⟩) fc ls far base pv Bm k wx hn hlt ((HPl.out.keepB hBf).heap e)
            rw [HDE.out] at this
            exact this)
          have HOf : Hid (∀ (wx : World) (o : Obj), wx.heap = (wf.alloc o).heap → wx.ownsRow w2.heap.size 29 5 u6 (al.inss ls n far k).length (al.flat (al.inss ls n far k))) := bl.hid fun wx o e => own_heap (hOf.alloc o) e
          have HNw : Hid (∀ (wx : World), wx.heap = (wf.alloc (.cells #[.int .i64 iv, .int .i64 rd, .int .i64 rs1, .int .i64 rs2, .int .i64 8, .int .i64 3, .int .i64 0, .int .i64 0, .int .i64 0, .int .i64 (D - 4)] 29)).heap → ∀ j u, [Value.int .i64 iv, .int .i64 rd, .int .i64 rs1, .int .i64 rs2, .int .i64 8, .int .i64 3, .int .i64 0, .int .i64 0, .int .i64 0, .int .i64 (D - 4)][j]? = some u → wx.cell? ((⟨wf.heap.size, 0, none⟩ : Addr).add j) = some u) := bl.hid (by
            intro wx e j u hj
            refine World.news_of_block (cs := #[.int .i64 iv, .int .i64 rd, .int .i64 rs1, .int .i64 rs2, .int .i64 8, .int .i64 3, .int .i64 0, .int .i64 0, .int .i64 0, .int .i64 (D - 4)]) (t := 29) (fr := (0, 0)) ?_ j u hj
            rw [e]
            exact heap_alloc_new _ _)
          have HOne : Hid (∀ u ∈ [Value.int .i64 iv, .int .i64 rd, .int .i64 rs1, .int .i64 rs2, .int .i64 8, .int .i64 3, .int .i64 0, .int .i64 0, .int .i64 0, .int .i64 (D - 4)], u.oneCell' = true) := bl.hid (by intro u hu; simp at hu; rcases hu with rfl | rfl | rfl | rfl | rfl | rfl | rfl | rfl <;> rfl)
          have hlen := al.inss_two ls n far k
          have s1 : IntKind.i64.wrap (D - 4) = D - 4 := IntWalk.i64_in _ (by omega)
          have HBf := bl.hid hBf
          obtain ⟨zi, hzi, hz0, hz1, hz2⟩ := info_parts rv_parts
          have HZi : Hid (Try.prog.info? 29 = some zi ∧ zi.zero = some (.agg #[.int .i64 0, .int .i64 0, .int .i64 0, .int .i64 0, .int .i64 0]) ∧ zi.size = 5 ∧ zi.bytes = 40) := bl.hid ⟨hzi, hz0, hz1, hz2⟩
          clear hBf hYf hOf hyx hzi hz0 hz1 hz2
          go_region_held3 (fun w' => w'.cell? ⟨wr.heap.size + 1, 0, none⟩ = some (.int .i64 iv) ∧ w'.cell? ⟨wr.heap.size + 1, 1, none⟩ = some (.int .i64 rd) ∧ w'.cell? ⟨wr.heap.size + 1, 2, none⟩ = some (.int .i64 rs1) ∧ w'.cell? ⟨wr.heap.size + 1, 3, none⟩ = some (.int .i64 rs2) ∧ w'.cell? ⟨wr.heap.size + 1, 4, none⟩ = some (.int .i64 8)) ((first | with_reducible assumption | exact HS1.out _ (by rfl) | exact HS2.out _ _ (by rfl) | exact HS3.out _ _ _ (by assumption) (by rfl)))
            ((first
              | (go_simp; go_at_call 25; refine (HG.out _ (by rfl)).mono ?_; rintro e w' ⟨rfl, m, rfl⟩; dsimp only)
              | (refine step_append_lies _ ?a0 (.tmp 52) (.tmp 59) 58 ?a1 w2.heap.size 29 zi (.agg #[.int .i64 0, .int .i64 0, .int .i64 0, .int .i64 0, .int .i64 0]) 5 40 Try.underlying58 HZi.out.1 HZi.out.2.1 HZi.out.2.2.1 HZi.out.2.2.2 rfl (by decide) u6 (al.inss ls n far k).length (al.flat (al.inss ls n far k)) ?a2 ?a3 ⟨wf.heap.size, 0, none⟩ 2 2 [.int .i64 iv, .int .i64 rd, .int .i64 rs1, .int .i64 rs2, .int .i64 8, .int .i64 3, .int .i64 0, .int .i64 0, .int .i64 0, .int .i64 (D - 4)] ?a4 rfl ?a5 ?a6 (by omega) ?a8 ?a9 ?a10 (wf.heap.size + 1) ?a11 ?_
                 case a0 => rfl
                 case a1 => rfl
                 case a2 => rfl
                 case a3 => exact HOf.out _ _ (by rfl)
                 case a4 => rfl
                 case a5 => exact HNw.out _ (by rfl)
                 case a6 => exact HOne.out
                 case a8 => unfold maxLen; omega
                 case a9 => omega
                 case a10 => show _ ≤ (wf.alloc _).heap.size; rw [World.size_alloc]; omega
                 case a11 => show (wf.alloc _).heap.size = _; rw [World.size_alloc]
                 intro g cap w' h1 h2 h3 h4)))
          have hg' : (wf.alloc (.cells #[.int .i64 iv, .int .i64 rd, .int .i64 rs1, .int .i64 rs2, .int .i64 8, .int .i64 3, .int .i64 0, .int .i64 0, .int .i64 0, .int .i64 (D - 4)] 29)).grownBy w' u6.ownBlock := ⟨h2.os, h2.tape, h2.output, h2.size, h2.block⟩
          have HI : Hid (al.inss ls n far (k + 1) = al.inss ls n far k ++ [⟨iv, rd, rs1, rs2, 8⟩, ⟨3, 0, 0, 0, D - 4⟩]) := bl.hid (by
            show al.inss ls n far k ++ al.insOf ls n far k = _
            unfold al.insOf
            rw [HX.out, if_neg (by dsimp only; omega), if_pos HFp.out, HDE.out, HIvE.out])
          have HO' : Hid (w'.ownsRow w2.heap.size 29 5 (.slice (some ⟨g, 0, none⟩) ((al.inss ls n far k).length + 2) cap) (al.inss ls n far (k + 1)).length (al.flat (al.inss ls n far (k + 1)))) := bl.hid (by
            rw [HI.out, al.flat_app, List.length_append]
            exact h1)
          have HB' : Hid (Below w2.heap.size w2 w') := bl.hid ((HBf.out.alloc (by omega) _).grown hg' (by rw [World.size_alloc]; omega) (fun j hj => (HO.out.lt j hj).1))
          clear h1 h2 h3 h4 hg'
          go_wp2
          exact ⟨⟨k + 1, by omega, by go_num, HB'.out, HO'.out⟩, by simp [intOf]; omega⟩
    · obtain rfl : k = n := by omega
      obtain ⟨wz, rfl⟩ : ∃ wz, wz = wr := ⟨wr, rfl⟩
      have hlen := al.inss_two ls k far k
      have HZ : Hid (∀ x ∈ al.inss ls k far k, al.chk5 x = 0) := bl.hid (by
        have := al.inss_ok ls k HGd.out k (Nat.le_refl _)
        rw [HFr.out] at this
        exact this)
      have HEnd : Hid (∀ pv wx, Below wz.heap.size wz wx → wx.ownsRow wz.heap.size 32 1 pv (al.inss ls k far k).length (al.wordsV (al.inss ls k far k)) → AsmPost k ls w (.returned (.tuple #[pv, .int .i64 0])) wx) := bl.hid (by
        intro pv wx hb ho
        refine ⟨HB2.out.trans ((HB.out.trans (hb.mono hsz)).mono hs2), fun h => absurd HQ.out h, fun _ => ⟨_, pv, rfl, Nat.le_trans hs2 hsz, ?_⟩⟩
        rw [HFr.out]
        exact ho)
      obtain ⟨L, hL⟩ : ∃ L, al.inss ls k far k = L := ⟨_, rfl⟩
      rw [hL] at HO HZ HEnd hlen
      clear hL
      obtain ⟨ga, cap, rfl⟩ := own_shape HO.out
      go_wp2
      go_loopw [10, 72] (fun u v wx => ∃ j : Nat, j ≤ L.length ∧ v = .int .i64 j ∧ Below wz.heap.size wz wx ∧ wx.ownsRow wz.heap.size 32 1 u j (al.wordsV (L.take j))) (fun _ v _ => L.length - (intOf v).toNat)
      case atStart => exact ⟨0, by omega, rfl, Below.refl _ _, World.ownsRow_nil _ _ _ _⟩
      case round =>
        obtain ⟨j, hj, rfl, hb, ho⟩ := hrel
        have HB := bl.hid hb
        have HOw := bl.hid ho
        have hsz2 := hb.size
        clear hb ho
        by_cases hlt : j < L.length
        · obtain ⟨g, cp, hga, hg1, hg2, hcl⟩ := own_cell5 HO.out (by omega)
          injection hga with hga hga2 hga3
          subst hga hga3
          obtain ⟨x, hx⟩ : ∃ x, L[j]? = some x := ⟨L[j], by simp [hlt]⟩
          obtain ⟨c0, c1, c2, c3, c4⟩ := hcl j x hx
          have hz := HZ.out x (List.mem_of_getElem? hx)
          have keep : ∀ i u, wz.cell? ⟨g, i, none⟩ = some u → wr.cell? ⟨g, i, none⟩ = some u := fun i u h => by
            rw [World.cell?_of_block (w := wz) (a := ⟨g, i, none⟩) (HB.out.block g hg2)]; exact h
          have d0 := keep _ _ c0
          have d1 := keep _ _ c1
          have d2 := keep _ _ c2
          have d3 := keep _ _ c3
          have d4 := keep _ _ c4
          have HEn := bl.hid (fun w => encode_any x.op x.rd x.rs1 x.rs2 x.im w)
          have HTk : Hid (al.wordsV (L.take (j + 1)) = al.wordsV (L.take j) ++ [.int .u32 (al.enc5 x)]) := bl.hid (by
            rw [List.take_add_one, hx]
            unfold al.wordsV
            rw [List.map_append]
            rfl)
          unfold al.chk5 at hz
          rw [hz] at HEn
          obtain ⟨E, hE⟩ : ∃ E, al.enc5 x = E := ⟨_, rfl⟩
          have hE' : rv.encI x.op x.rd x.rs1 x.rs2 x.im = E := hE
          rw [hE] at HTk
          rw [hE'] at HEn
          clear hcl keep hz hE hE' c0 c1 c2 c3 c4 hx
          obtain ⟨xo, xd, xs1, xs2, xi⟩ := x
          dsimp only at d0 d1 d2 d3 d4 HEn
          have lg : g < wr.heap.size := by omega
          go_wp2_with fail
          refine (HEn.out _).mono ?_
          rintro e w3 ⟨rfl, hb3⟩
          obtain ⟨rb, hb3', hs3⟩ := one_box hb3
          have HB3 : Hid (Below wz.heap.size wz w3) := bl.hid (HB.out.trans (hb3'.mono hsz2))
          have HO3 : Hid (w3.ownsRow wz.heap.size 32 1 u10 j (al.wordsV (L.take j))) := bl.hid (own_below HOw.out hb3')
          have hs3z : wz.heap.size ≤ w3.heap.size := HB3.out.size
          have HNw := bl.hid (World.news_of_block (heap_alloc_new w3 (.cells #[.int .u32 E] 32)))
          have HOne : Hid (∀ u ∈ [Value.int .u32 E], u.oneCell' = true) := bl.hid (by intro u hu; simp at hu; subst hu; rfl)
          obtain ⟨zi, hzi, hz0, hz1, hz2⟩ := info_parts u32_parts
          have HZi : Hid (Try.prog.info? 32 = some zi ∧ zi.zero = some (.int .u32 0) ∧ zi.size = 1 ∧ zi.bytes = 4) := bl.hid ⟨hzi, hz0, hz1, hz2⟩
          clear hb3 hb3' rb d0 d1 d2 d3 d4 hzi hz0 hz1 hz2
          go_wp2_with (at_builtin; refine wpList_append_lies _ rfl _ _ 22 rfl wz.heap.size 32 zi (.int .u32 0) 1 4 Try.underlying22 HZi.out.1 HZi.out.2.1 HZi.out.2.2.1 HZi.out.2.2.2 rfl (by decide) u10 j (al.wordsV (L.take j)) rfl (HO3.out.alloc _) ⟨w3.heap.size, 0, none⟩ 1 1 [.int .u32 E] rfl rfl HNw.out HOne.out (by omega) ?c3 ?c4 ?c5 (w3.heap.size + 1) (World.size_alloc _ _) ?_)
          case c3 => unfold maxLen; omega
          case c4 => omega
          case c5 => first | omega | (rw [World.size_alloc]; omega) | (show _ ≤ (w3.alloc _).heap.size; rw [World.size_alloc]; omega)
          intro g1 cap1 w' h1 h2 h3 h4
          have HO' : Hid (w'.ownsRow wz.heap.size 32 1 (.slice (some ⟨g1, 0, none⟩) (j + 1) cap1) (j + 1) (al.wordsV (L.take (j + 1)))) := bl.hid (by
            rw [HTk.out]
            exact h1)
          have HB' : Hid (Below wz.heap.size wz w') := bl.hid ((HB3.out.alloc (by omega) _).grown h2 (by rw [World.size_alloc]; omega) (fun i hi => (HO3.out.lt i hi).1))
          clear h1 h2 h3 h4
          go_wp2
          exact ⟨⟨j + 1, by omega, by go_num, HB'.out, HO'.out⟩, by simp [intOf]; omega⟩
        · obtain rfl : j = L.length := by omega
          have HE := bl.hid (HEnd.out _ _ HB.out (by have := HOw.out; rw [List.take_length] at this; exact this))
          go_wp2
          go_ret2
          exact HE.out
end Go.Proofs.Ytbcflhpaafpndaa
