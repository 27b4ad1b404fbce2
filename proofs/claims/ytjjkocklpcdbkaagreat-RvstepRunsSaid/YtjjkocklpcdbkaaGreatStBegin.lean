/- Long, Begin, regs, walked. -/
import Derived.Test.YtjjkocklpcdbkaaGreatStSix
import Derived.Test.YtjjkocklpcdbkaaGreatStCome
namespace Go.Proofs.YtjjkocklpcdbkaaGreat
open Go.RowKit
set_option linter.unusedVariables false
set_option maxRecDepth 100000
namespace st
def setsS (s : S) (f : Nat → Int) : Nat → S
  | 0 => s
  | k + 1 => (setsS s f k).set k (f k)
/-- a machine as it begins -/
def begS (x : kt.Start) : S := if x.far = true then (setsS (S0 (pl.layL (List.replicate 128 0) 16 x.bl)) x.rf x.rn).go x.at' else setsS (S0 (pl.layL (List.replicate 128 0) 16 x.bl)) x.rf x.rn
/-- more than is gone through? -/
def longS (x : kt.Start) : Bool := decide ((60 : Int) < x.cn) || decide ((40 : Int) < x.rn) || decide ((200 : Int) < x.bn)
end st
theorem layL_len (l bs : List Int) (a : Int) (hl : 0 < l.length) : 0 < (pl.layL l a bs).length := by
  have := hl
  unfold pl.layL
  split
  · unfold pl.lay
    simp
    omega
  · exact hl
set_option maxHeartbeats 3200000 in
theorem long_any (x : kt.Start) (w : World) : Calls Tryz.prog 5 #[.agg x.cells] w fun e w' => e = .returned (.bool (st.longS x)) ∧ Below w.heap.size w w' := by
  obtain ⟨ca, cn, cc, cf, ra, rn, rc, rf, far, at', ba, bn, bc, bl0⟩ := x
  unfold st.longS
  unfold kt.Start.cells
  dsimp only
  have HB : Hid (∀ r : World, (∃ c, r = w.alloc c) → Below w.heap.size w r) := bl.hid (fun r h => by obtain ⟨c, rfl⟩ := h; exact (Below.refl _ _).alloc (Nat.le_refl _) _)
  go_enter Tryz.func5, Tryz.ntmps5
  go_wp2 <;> (go_ret; exact ⟨rfl, HB.out _ ⟨_, rfl⟩⟩)
theorem st.long_no (x : kt.Start) (h : st.longS x = false) : x.cn ≤ 60 ∧ x.rn ≤ 40 ∧ x.bn ≤ 200 := by
  unfold st.longS at h
  simp at h
  omega
set_option maxHeartbeats 6400000 in
theorem begin_any (x : kt.Start) (w : World) (hok : kt.StartOk w x) (hn : x.cn ≤ 60 ∧ x.rn ≤ 40 ∧ x.bn ≤ 200) :
    Calls Tryz.prog 21 #[.agg x.cells] w (MachPost x.cn (fun k => st.toldOf (x.cf k)) (st.begS x) w) := by
  have hb0 : Below w.heap.size w (w.alloc (.cells x.cells 27)) := (Below.refl _ _).alloc (Nat.le_refl _) _
  have HOk : Hid (∀ w1, Below w.heap.size w w1 → kt.StartOk w1 x) := bl.hid fun w1 hb => hok.keep hb
  have HBs : Hid (st.begS x = if x.far = true then (st.setsS (st.S0 (pl.layL (List.replicate 128 0) 16 x.bl)) x.rf x.rn).go x.at' else st.setsS (st.S0 (pl.layL (List.replicate 128 0) 16 x.bl)) x.rf x.rn) := bl.hid rfl
  have hat := hok.at'
  obtain ⟨R, hR⟩ : ∃ R, st.begS x = R := ⟨_, rfl⟩
  rw [hR] at HBs ⊢
  have hx0 := heap_alloc_new w (.cells x.cells 27)
  obtain ⟨w0, hw0⟩ : ∃ w0, w.alloc (.cells x.cells 27) = w0 := ⟨_, rfl⟩
  have hs0 : w0.heap.size = w.heap.size + 1 := by rw [← hw0]; exact World.size_alloc _ _
  rw [hw0] at hb0 hx0
  obtain ⟨ca, cn, cc, cf, ra, rn, rc, rf, far, at', ba, bn, bc, bl0⟩ := x
  dsimp only at *
  unfold kt.Start.cells at hx0 hw0 ⊢
  dsimp only at hx0 hw0 ⊢
  have HX : Hid (∀ w1, Below (w.heap.size + 1) w0 w1 → w1.cell? ⟨w.heap.size, 0, none⟩ = some (.slice ca cn cc) ∧ w1.cell? ⟨w.heap.size, 1, none⟩ = some (.slice ra rn rc) ∧ w1.cell? ⟨w.heap.size, 2, none⟩ = some (.bool far) ∧ w1.cell? ⟨w.heap.size, 3, none⟩ = some (.int .u64 at') ∧ w1.cell? ⟨w.heap.size, 4, none⟩ = some (.slice ba bn bc)) := bl.hid (fun w1 hb => by
    have h := (hb.block w.heap.size (by omega)).trans hx0
    exact ⟨(cell_of_row _ _ _ _ _ _ h).trans rfl, (cell_of_row _ _ _ _ _ _ h).trans rfl, (cell_of_row _ _ _ _ _ _ h).trans rfl, (cell_of_row _ _ _ _ _ _ h).trans rfl, (cell_of_row _ _ _ _ _ _ h).trans rfl⟩)
  have HW : Hid (∀ w1, Below (w.heap.size + 1) w0 w1 → Below w.heap.size w w1) := bl.hid (fun w1 hb => hb0.trans (hb.mono (by omega)))
  have HN := bl.hid (new_ok 128 w0 (by decide) (by decide))
  have HW0 := bl.hid hw0
  obtain ⟨n1, n2, n3⟩ := hn
  clear hok hb0 hx0 hR hw0
  go_enter Tryz.func21, Tryz.ntmps21
  go_upto_region 1 with (fail)
  rw [HW0.out]
  go_wp2_with fail
  refine HN.out.mono ?_
  rintro e w1 ⟨mp, g, rfl, hmp, hg, hm, hb⟩
  have HB1 : Hid (Below (w.heap.size + 1) w0 w1) := bl.hid (by rw [← hs0]; exact hb)
  obtain ⟨x0, x1, x2, x3, x4⟩ := HX.out _ HB1.out
  have s1 := HB1.out.size
  have HLay := bl.hid (lay_any mp g 16 bn bc ba bl0 _ w1 hm (HOk.out _ (HW.out _ HB1.out)).bytes (by decide) (by decide) (by omega))
  clear hm hb HN
  go_wp2_with fail
  refine HLay.out.mono ?_
  rintro e w2 ⟨rfl, hgr, hm⟩
  have HB2 : Hid (Below (w.heap.size + 1) w0 w2) := bl.hid (HB1.out.grown hgr (by omega) (by intro k hk; injection hk with hk; omega))
  have s2 := HB2.out.size
  have HMk := bl.hid (make_any w2 mp g _ hm (layL_len _ _ _ (by decide)))
  clear hgr hm HLay x0 x1 x2 x3 x4
  go_wp2_with fail
  refine HMk.out.mono ?_
  rintro e w3 ⟨p, db, rfl, hp, hm, hb⟩
  have HB3 : Hid (Below (w.heap.size + 1) w0 w3) := bl.hid (HB2.out.trans (hb.mono (by omega)))
  obtain ⟨x0, x1, x2, x3, x4⟩ := HX.out _ HB3.out
  have s3 := HB3.out.size
  have HC := bl.hid (code_any w3 _ _ _ ca cn cc cf (hm (fun _ => st.noTold)) (HOk.out _ (HW.out _ HB3.out)).code (by omega))
  clear hm hb HMk
  go_wp2_with fail
  refine HC.out.mono ?_
  rintro e w4 ⟨B, rfl, hm, hb⟩
  have HB4 : Hid (Below (w.heap.size + 1) w0 w4) := bl.hid (hb.below HB3.out (by show w.heap.size + 1 ≤ p; omega) (by show w.heap.size + 1 ≤ p; omega) (by omega))
  have HM4 := bl.hid hm
  obtain ⟨P, hP⟩ : ∃ P : st.Pl, ({ p := p, mp := mp, g := g, db := db, ca := some ⟨B, 0, none⟩, n := cn, c := cn } : st.Pl) = P := ⟨_, rfl⟩
  have HPp : Hid (P.p = p ∧ P.mp = mp ∧ P.g = g ∧ P.n = cn) := bl.hid (by subst hP; exact ⟨rfl, rfl, rfl, rfl⟩)
  have hM4 : Hid (IsMach w4 P (fun k => st.toldOf (cf k)) (st.S0 (pl.layL (List.replicate 128 0) 16 bl0))) := bl.hid (by have := HM4.out; rw [← hP]; exact this)
  clear hm hb HC HM4 hP x0 x1 x2 x3 x4
  go_wp2
  go_loopw [8] (fun v wr => ∃ k : Nat, k ≤ rn ∧ v = .int .i64 k ∧ IsMach wr P (fun k => st.toldOf (cf k)) (st.setsS (st.S0 (pl.layL (List.replicate 128 0) 16 bl0)) rf k) ∧ Below (w.heap.size + 1) w0 wr) (fun v _ => rn - (intOf v).toNat)
  case atStart => exact ⟨0, by omega, rfl, hM4.out, HB4.out⟩
  case round =>
    obtain ⟨k, hk, rfl, hm, hb⟩ := hrel
    obtain ⟨x0, x1, x2, x3, x4⟩ := HX.out _ hb
    have HB := bl.hid hb
    have HM := bl.hid hm
    have sr := hb.size
    have hrg := (HOk.out _ (HW.out _ hb)).regs
    dsimp only at hrg
    clear hm hb
    by_cases hlt : k < rn
    · obtain ⟨b, off, hae, hwc⟩ : ∃ b off, ra = some ⟨b, off, none⟩ ∧ ∀ i, i < rn → wr.cell? ⟨b, off + i, none⟩ = some (.int .u64 (rf i)) := by
        rcases hrg.2 with h | h
        · omega
        · exact h
      subst hae
      have hwk := hwc k hlt
      have hu := hrg.1 k hlt
      have HS := bl.hid (mset_any wr P _ _ k (rf k) HM.out hu)
      rw [HPp.out.1] at HS
      have hlt2 : (k : Int) < rn := by omega
      clear hrg hwc hu
      go_wp2_with fail
      refine HS.out.mono ?_
      rintro e w5 ⟨rfl, hm5, hb5⟩
      have HN5 : Hid (IsMach w5 P (fun k => st.toldOf (cf k)) (st.setsS (st.S0 (pl.layL (List.replicate 128 0) 16 bl0)) rf (k + 1))) := bl.hid hm5
      have HB5 : Hid (Below (w.heap.size + 1) w0 w5) := bl.hid (hb5.below HB.out (by rw [HPp.out.1]; omega) (by rw [HPp.out.2.2.1]; omega) (by omega))
      clear hm5 hb5 hwk x0 x1 x2 x3 x4 HS
      go_wp2
      exact ⟨⟨k + 1, by omega, by go_num, HN5.out, HB5.out⟩, by simp [intOf]; omega⟩
    · obtain rfl : k = rn := by omega
      clear hrg
      have hre : ∀ s : st.S, Hid (R = s) → ∀ w', IsMach w' P (fun k => st.toldOf (cf k)) s → Below (w.heap.size + 1) w0 w' → MachPost cn (fun k => st.toldOf (cf k)) R w (.returned (.tuple #[.pointer (some ⟨p, 0, none⟩), .pointer (some ⟨mp, 0, none⟩)])) w' := fun s hs w' h1 h2 => ⟨P, HPp.out.2.2.2, by rw [HPp.out.1, HPp.out.2.1], by rw [hs.out]; exact h1, HW.out _ h2, by rw [HPp.out.1]; omega, by rw [HPp.out.2.2.1]; omega⟩
      have HRe := bl.hid hre
      cases far with
      | false =>
        have HE := bl.hid (HRe.out _ (bl.hid (by rw [HBs.out, if_neg (by decide)])) wr HM.out HB.out)
        clear hre
        go_wp2
        go_ret2
        exact HE.out
      | true =>
        have HJ := bl.hid (mjump_any wr P _ _ at' HM.out hat)
        rw [HPp.out.1] at HJ
        clear hre
        go_wp2_with fail
        refine HJ.out.mono ?_
        rintro e w5 ⟨rfl, hm5, hb5⟩
        have HB5 : Hid (Below (w.heap.size + 1) w0 w5) := bl.hid (hb5.below HB.out (by rw [HPp.out.1]; omega) (by rw [HPp.out.2.2.1]; omega) (by omega))
        have HE := bl.hid (HRe.out _ (bl.hid (by rw [HBs.out]; exact if_pos trivial)) w5 hm5 HB5.out)
        clear hm5 hb5 x0 x1 x2 x3 x4 HJ
        go_wp2
        go_ret2
        exact HE.out
end Go.Proofs.YtjjkocklpcdbkaaGreat
