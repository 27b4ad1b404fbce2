/- grow: those that do not reach are far. -/
import Derived.Test.YtbcflhpaafpndaaAsGoes
import Derived.Test.YtbcflhpaafpndaaRvOf
namespace Go.Proofs.Ytbcflhpaafpndaa
open Go.RowKit
set_option linter.unusedVariables false
theorem form_B_all : ∀ k, k < 64 → ((decide (5 ≤ k ∧ k ≤ 10) = true → (rv.row k).form = ⟨#[66]⟩) ∧ (decide (5 ≤ k ∧ k ≤ 10) = false → ((rv.row k).form.toList == [66]) = false)) := by decide +kernel
theorem form0 : ((rv.row 0).form.toList == [66]) = false := by decide +kernel
theorem form_B (op : Int) : (al.isB op = true → (rv.rowI op).form = ⟨#[66]⟩) ∧ (al.isB op = false → ((rv.rowI op).form.toList == [66]) = false) := by
  unfold al.isB rv.rowI rv.is
  by_cases h : 1 ≤ op ∧ op < 64
  · rw [decide_eq_true h]
    obtain ⟨k, rfl⟩ : ∃ k : Nat, op = k := ⟨op.toNat, by omega⟩
    have := form_B_all k (by omega)
    simp only [if_true, Int.toNat_natCast]
    refine ⟨fun q => this.1 ?_, fun q => this.2 ?_⟩
    · have := of_decide_eq_true q
      exact decide_eq_true (by omega)
    · have := of_decide_eq_false q
      exact decide_eq_false (by omega)
  · rw [decide_eq_false h]
    simp only [Bool.false_eq_true, if_false]
    refine ⟨fun q => ?_, fun _ => form0⟩
    · have := of_decide_eq_true q
      exact absurd (by omega) h
theorem one_box' {w w1 : World} {o0 : Obj} (hb : Below (w.alloc o0).heap.size (w.alloc o0) w1) : w1.heap[w.heap.size]? = some o0 ∧ Below w.heap.size w w1 ∧ w.heap.size + 1 ≤ w1.heap.size := by
  have s1 : (w.alloc o0).heap.size = w.heap.size + 1 := World.size_alloc _ _
  have hs := hb.size
  refine ⟨?_, ((Below.refl _ _).alloc (Nat.le_refl _) o0).trans (hb.mono (by omega)), by omega⟩
  rw [hb.block _ (by omega), heap_alloc_new]
/-- while it grows -/
def mix (ls : Nat → kt.Ln) (n : Nat) (far : Nat → Bool) (k i : Nat) : Bool := if i < k then al.grow ls n far i else far i
theorem mix_zero (ls : Nat → kt.Ln) (n : Nat) (far : Nat → Bool) : mix ls n far 0 = far := by funext i; simp [mix]
theorem mix_end (ls : Nat → kt.Ln) (n : Nat) (far : Nat → Bool) : mix ls n far n = al.grow ls n far := by
  funext i
  unfold mix
  split
  · rfl
  · rw [al.grow_out ls n far i (by omega)]
theorem mix_same (ls : Nat → kt.Ln) (n : Nat) (far : Nat → Bool) (k : Nat) (h : al.grow ls n far k = far k) : mix ls n far (k + 1) = mix ls n far k := by
  funext i
  unfold mix
  by_cases e : i = k
  · subst e
    rw [if_pos (by omega), if_neg (by omega), h]
  · by_cases h2 : i < k
    · rw [if_pos (by omega), if_pos h2]
    · rw [if_neg (by omega), if_neg h2]
theorem mix_vals (ls : Nat → kt.Ln) (n : Nat) (far : Nat → Bool) (k : Nat) (hk : k < n) (h : al.grow ls n far k = true) :
    ((List.range n).map fun i => Value.bool (mix ls n far (k + 1) i)).toArray = (((List.range n).map fun i => Value.bool (mix ls n far k i)).toArray).setIfInBounds k (.bool true) := by
  apply Array.ext_getElem?
  intro i
  rw [Array.getElem?_setIfInBounds]
  by_cases hi : i < n
  · by_cases e : k = i
    · subst e
      simp [hi, mix, h]
    · rw [if_neg e]
      have e2 : mix ls n far (k + 1) i = mix ls n far k i := by
        unfold mix
        by_cases h2 : i < k
        · rw [if_pos (by omega), if_pos h2]
        · rw [if_neg (by omega), if_neg h2]
      simp [hi, e2]
  · rw [if_neg (by omega)]
    simp [hi]
/-- has somebody become far, among the first -/
def turned (ls : Nat → kt.Ln) (n : Nat) (far : Nat → Bool) : Nat → Bool
  | 0 => false
  | k + 1 => turned ls n far k || (al.grow ls n far k && !far k)
theorem turned_no (ls : Nat → kt.Ln) (n : Nat) (far : Nat → Bool) : ∀ k, turned ls n far k = false → ∀ i, i < k → al.grow ls n far i = far i
  | 0, _, i, hi => by omega
  | k + 1, h, i, hi => by
    unfold turned at h
    simp only [Bool.or_eq_false_iff] at h
    by_cases e : i = k
    · subst e
      cases hf : far i
      · rw [hf] at h; simpa using h.2
      · exact al.grow_mono ls n far i hf
    · exact turned_no ls n far k h.1 i (by omega)
theorem turned_fix (ls : Nat → kt.Ln) (n : Nat) (far : Nat → Bool) (h : turned ls n far n = false) : al.grow ls n far = far := by
  funext i
  by_cases hi : i < n
  · exact turned_no ls n far n h i hi
  · exact al.grow_out ls n far i (by omega)
theorem turned_yes (ls : Nat → kt.Ln) (n : Nat) (far : Nat → Bool) : ∀ k, turned ls n far k = true → ∃ i, i < k ∧ al.grow ls n far i = true ∧ far i = false
  | 0, h => by cases h
  | k + 1, h => by
    unfold turned at h
    simp only [Bool.or_eq_true, Bool.and_eq_true, Bool.not_eq_true'] at h
    rcases h with h | ⟨h1, h2⟩
    · obtain ⟨i, a, b⟩ := turned_yes ls n far k h
      exact ⟨i, by omega, b⟩
    · exact ⟨k, by omega, h1, h2⟩
/-- the blocks that a plan's own steps write -/
def planOwn (Pb : Nat) (fa : Option Addr) (k : Nat) : Prop := k = Pb ∨ ∃ o s, fa = some ⟨k, o, s⟩
theorem PlanAt.keepF {w w' : World} {Pb : Nat} {a : Option Addr} {n c : Nat} {fa : Option Addr} {fc : Nat} {ls : Nat → kt.Ln} {far : Nat → Bool} {base : Nat} {pv : Value} {Bm : Nat} (h : PlanAt w Pb a n c fa fc ls far base pv Bm)
    {B : Nat} {f : Nat → Bool} (hB : w.heap[B]? = some (.cells ((List.range n).map fun i => Value.bool (f i)).toArray 4 (0, 0))) (hb : ∀ k, k < w.heap.size → k ≠ B → w'.heap[k]? = w.heap[k]?) : PlanAt w' Pb a n c fa fc ls far base pv Bm := by
  have hno : ∀ k t cs fr, t ≠ 4 → w.heap[k]? = some (.cells cs t fr) → k ≠ B := by
    rintro k t cs fr ht hk rfl
    rw [hk] at hB
    injection hB with hB
    injection hB with h5 h6
    exact ht h6
  have lt : ∀ k x, w.heap[k]? = some x → k < w.heap.size := fun k x hx => by rw [Array.getElem?_eq_some_iff] at hx; exact hx.1
  refine ⟨?_, ?_, ?_, ?_⟩
  · rw [hb Pb (lt _ _ h.plan) (hno Pb _ _ _ (by decide) h.plan)]
    exact h.plan
  · rcases h.own with ⟨hl, h0 | ⟨g, cap, cur, h1, h2, h3, h4⟩⟩
    · exact ⟨hl, .inl h0⟩
    · exact ⟨hl, .inr ⟨g, cap, cur, h1, h2, (hb g (lt _ _ h3) (hno g _ _ _ (by decide) h3)).trans h3, h4⟩⟩
  · refine h.map.kept (hb Bm h.map.lt ?_)
    rintro rfl
    exact h.map.is_map hB
  · refine ⟨h.lines.ok, h.lines.small, ?_⟩
    rcases h.lines.at' with h0 | ⟨b, off, e, h0⟩
    · exact .inl h0
    · by_cases hn : n = 0
      · exact .inl hn
      · refine .inr ⟨b, off, e, fun i hi => (h0 i hi).kept (hb b (h0 i hi).lt ?_)⟩
        rintro rfl
        have h2 := (cell_of_row _ _ (off + i * 7) _ _ _ hB).symm.trans (h0 i hi).c0
        by_cases hl : off + i * 7 < n
        · simp [hl] at h2
        · simp [hl] at h2
theorem PlanAt.keepB {w w' : World} {Pb : Nat} {a : Option Addr} {n c : Nat} {fa : Option Addr} {fc : Nat} {ls : Nat → kt.Ln} {far : Nat → Bool} {base : Nat} {pv : Value} {Bm : Nat} (h : PlanAt w Pb a n c fa fc ls far base pv Bm) (hb : Below w.heap.size w w') : PlanAt w' Pb a n c fa fc ls far base pv Bm := by
  have lt : ∀ k x, w.heap[k]? = some x → k < w.heap.size := fun k x hx => by rw [Array.getElem?_eq_some_iff] at hx; exact hx.1
  refine ⟨(hb.block _ (lt _ _ h.plan)).trans h.plan, ?_, h.map.kept (hb.block _ h.map.lt), h.lines.keep hb⟩
  rcases h.own with ⟨hl, h0 | ⟨g, cap, cur, h1, h2, h3, h4⟩⟩
  · exact ⟨hl, .inl h0⟩
  · exact ⟨hl, .inr ⟨g, cap, cur, h1, h2, (hb.block g (lt _ _ h3)).trans h3, h4⟩⟩
theorem FarAt.keepB {w w' : World} {fa : Option Addr} {n : Nat} {far : Nat → Bool} (h : FarAt w fa n far) (hb : Below w.heap.size w w') : FarAt w' fa n far := by
  rcases h with h | ⟨B, e, h⟩
  · exact .inl h
  · exact .inr ⟨B, e, (hb.block _ (by rw [Array.getElem?_eq_some_iff] at h; exact h.1)).trans h⟩
theorem below_drewN (w : World) (m : Nat) : Below w.heap.size w (w.drewN m) := ⟨rfl, rfl, rfl, Nat.le_refl _, fun _ _ => rfl⟩
def GrowPost (Pb : Nat) (a : Option Addr) (n c : Nat) (fa : Option Addr) (fc : Nat) (ls : Nat → kt.Ln) (far : Nat → Bool) (w : World) (e : Ending) (w' : World) : Prop :=
  e = .returned (.bool (turned ls n far n)) ∧ ∃ pv Bm, PlanAt w' Pb a n c fa fc ls far w.heap.size pv Bm ∧ FarAt w' fa n (al.grow ls n far) ∧ kt.ButP (planOwn Pb fa) w w'
set_option maxRecDepth 100000 in
set_option maxHeartbeats 3200000 in
theorem grow_any (Pb : Nat) (a : Option Addr) (n c : Nat) (fa : Option Addr) (fc : Nat) (ls : Nat → kt.Ln) (far : Nat → Bool) (pv0 mv0 : Value) (w : World) (hn : n ≤ 4000)
    (hp : w.heap[Pb]? = some (.cells (planCells a n c fa n fc pv0 mv0) 62 (0, 0))) (hl : kt.Lines w a n ls) (hf : FarAt w fa n far) :
    Calls Try.prog 35 #[.pointer (some ⟨Pb, 0, none⟩)] w (GrowPost Pb a n c fa fc ls far w) := by
  have HLay := bl.hid (lay_any Pb a n c fa fc ls far pv0 mv0 w hn hp hl hf)
  have HL := bl.hid hl
  have HF := bl.hid hf
  have HP := bl.hid hp
  have lP : Pb < w.heap.size := by rw [Array.getElem?_eq_some_iff] at hp; exact hp.1
  clear hl hf hp
  go_enter Try.func35, Try.ntmps35
  go_wp2_with fail
  refine HLay.out.mono ?_
  rintro e w1 ⟨rfl, pv, Bm, hL⟩
  have hlines : kt.Lines w1 a n ls := HL.out.keptBy (fun b off e h0 => by
    rcases HL.out.at' with h1 | ⟨b', off', e', h1⟩
    · omega
    · rw [e] at e'
      injection e' with e'
      injection e' with e1 e2 e3
      subst e1 e2
      refine hL.but.block b ?_ (h1 0 h0).lt
      rintro rfl
      have h2 := (cell_of_row _ _ (off + 0 * 7 + 6) _ _ _ HP.out).symm.trans (h1 0 h0).c6
      rw [Array.getElem?_eq_none (by show 4 ≤ _; omega)] at h2
      cases h2)
  have hPl : PlanAt w1 Pb a n c fa fc ls far w.heap.size pv Bm := ⟨hL.plan, hL.own, hL.map, hlines⟩
  have hFa : FarAt w1 fa n far := by
    rcases HF.out with h0 | ⟨B, e, h0⟩
    · exact .inl h0
    · refine .inr ⟨B, e, (hL.but.block B ?_ (by rw [Array.getElem?_eq_some_iff] at h0; exact h0.1)).trans h0⟩
      rintro rfl
      rw [HP.out] at h0
      injection h0 with h0
      injection h0 with h1 h2
      cases h2
  have hBu : kt.ButP (planOwn Pb fa) w w1 := hL.but.mono (fun k hk => .inl hk)
  have c0 : w1.cell? ⟨Pb, 0, none⟩ = some (.slice a n c) := (cell_of_row _ _ _ _ _ _ hL.plan).trans rfl
  have HPl := bl.hid hPl
  have HFa := bl.hid hFa
  have HBu := bl.hid hBu
  have hs1 := hL.but.size
  clear hL hPl hFa hBu hlines
  go_wp2
  clear c0
  go_loopw [3, 14] (fun u v wr => ∃ k : Nat, k ≤ n ∧ v = .int .i64 k ∧ u = .bool (turned ls n far k) ∧ PlanAt wr Pb a n c fa fc ls far w.heap.size pv Bm ∧ FarAt wr fa n (mix ls n far k) ∧ kt.ButP (planOwn Pb fa) w wr) (fun _ v _ => n - (intOf v).toNat)
  case atStart => exact ⟨0, by omega, rfl, rfl, HPl.out, by rw [mix_zero]; exact HFa.out, HBu.out⟩
  case round =>
    obtain ⟨k, hk, rfl, rfl, hP, hF, hB⟩ := hrel
    obtain ⟨ch, hch⟩ : ∃ ch, turned ls n far k = ch := ⟨_, rfl⟩
    rw [hch]
    have HCh := bl.hid hch
    have HPr := bl.hid hP
    have HFr := bl.hid hF
    have HBr := bl.hid hB
    have hsr := hB.size
    clear hch hP hF hB
    by_cases hlt : k < n
    · obtain ⟨Bf, rfl, hfr⟩ := HFr.out.blk (by omega)
      have hat : ∃ b off, a = some ⟨b, off, none⟩ ∧ kt.LnAt wr b (off + k * 7) (ls k) := by
        rcases HPr.out.lines.at' with h | ⟨b, off, e, h⟩
        · omega
        · exact ⟨b, off, e, h k hlt⟩
      obtain ⟨b, off, rfl, hla⟩ := hat
      have HFB := bl.hid hfr
      have lBf : Bf < wr.heap.size := by rw [Array.getElem?_eq_some_iff] at hfr; exact hfr.1
      obtain ⟨x, hx⟩ : ∃ x, ls k = x := ⟨_, rfl⟩
      rw [hx] at hla
      have HX := bl.hid hx
      clear hx hfr
      obtain ⟨kd, lb, op, rd, rs1, rs2, im⟩ := x
      obtain ⟨l0, l1, l2, l3, l4, l5, l6⟩ := hla
      dsimp only at l0 l1 l2 l3 l4 l5 l6
      have lb0 : b < wr.heap.size := block_lt_of_cell l0
      have c0 : wr.cell? ⟨Pb, 0, none⟩ = some (.slice (some ⟨b, off, none⟩) n c) := (cell_of_row _ _ _ _ _ _ HPr.out.plan).trans rfl
      have c1 : wr.cell? ⟨Pb, 1, none⟩ = some (.slice (some ⟨Bf, 0, none⟩) n fc) := (cell_of_row _ _ _ _ _ _ HPr.out.plan).trans rfl
      have lp : Pb < wr.heap.size := by omega
      have hmk : mix ls n far k k = far k := by unfold mix; rw [if_neg (by omega)]
      have HStay : Hid (∀ w', al.grow ls n far k = far k → Below wr.heap.size wr w' → ∃ k', k' ≤ n ∧ Value.int .i64 (k + 1) = .int .i64 k' ∧ Value.bool ch = .bool (turned ls n far k') ∧ PlanAt w' Pb (some ⟨b, off, none⟩) n c (some ⟨Bf, 0, none⟩) fc ls far w.heap.size pv Bm ∧ FarAt w' (some ⟨Bf, 0, none⟩) n (mix ls n far k') ∧ kt.ButP (planOwn Pb (some ⟨Bf, 0, none⟩)) w w') := bl.hid (by
        intro w' hg hb
        refine ⟨k + 1, by omega, by go_num, ?_, HPr.out.keepB hb, ?_, HBr.out.trans (kt.ButP.of_below hb)⟩
        · show _ = Value.bool (turned ls n far k || (al.grow ls n far k && !far k))
          rw [hg, HCh.out]
          cases far k <;> simp
        · rw [mix_same ls n far k hg]
          exact HFr.out.keepB hb)
      by_cases hkd : kd = 2
      · have hk1 : (kd != 2) = false := by simpa using hkd
        have HFo := bl.hid (fun w => form_any op w)
        obtain ⟨fm, hfm⟩ : ∃ fm, (rv.rowI op).form = fm := ⟨_, rfl⟩
        have hfB := form_B op
        rw [hfm] at HFo hfB
        have HFm := bl.hid hfB
        have HKd := bl.hid hkd
        clear hfm hfB hkd
        go_wp2_with fail
        refine (HFo.out _).mono ?_
        rintro e w2 ⟨rfl, hb⟩
        obtain ⟨rb, hb2, hs2⟩ := one_box' hb
        have HB2 := bl.hid hb2
        have HP2 := bl.hid (HPr.out.keepB hb2)
        have HF2 := bl.hid ((hb2.block Bf lBf).trans HFB.out)
        clear l0 l1 l2 l3 l4 l5 l6 c0 c1 hb hb2
        have c0 : w2.cell? ⟨Pb, 0, none⟩ = some (.slice (some ⟨b, off, none⟩) n c) := (cell_of_row _ _ _ _ _ _ HP2.out.plan).trans rfl
        have c1 : w2.cell? ⟨Pb, 1, none⟩ = some (.slice (some ⟨Bf, 0, none⟩) n fc) := (cell_of_row _ _ _ _ _ _ HP2.out.plan).trans rfl
        by_cases hB : al.isB op = true
        · obtain rfl := HFm.out.1 hB
          have hfc := far_cell HF2.out k hlt
          rw [hmk] at hfc
          cases hfk : far k
          · rw [hfk] at hfc
            have HFk := bl.hid hfk
            have HGo := bl.hid (goes_any Pb (some ⟨b, off, none⟩) n c (some ⟨Bf, 0, none⟩) fc ls far w.heap.size pv Bm k w2 hn hlt HP2.out)
            clear hfk
            go_wp2_with fail
            refine HGo.out.mono ?_
            rintro e w3 ⟨rfl, m, hw3⟩
            have hb3 : Below w2.heap.size w2 w3 := by rw [hw3]; exact below_drewN w2 m
            have HB3 : Hid (Below wr.heap.size wr w3) := bl.hid (HB2.out.trans (hb3.mono HB2.out.size))
            have HF3 := bl.hid ((hb3.block Bf (by have := HB2.out.size; omega)).trans HF2.out)
            have HP3 := bl.hid (HP2.out.keepB hb3)
            have hs3 := hb3.size
            clear hw3 hb3 c0 c1 hfc
            obtain ⟨d, hd⟩ : ∃ d, al.dist ls n far k = d := ⟨_, rfl⟩
            rw [hd]
            have HD := bl.hid hd
            clear hd
            by_cases hout : d < -4096 ∨ 4094 < d
            · have hg : al.grow ls n far k = true := by
                unfold al.grow al.cand al.out
                rw [HX.out, HD.out, decide_eq_true hout, decide_eq_true hlt]
                simp [HKd.out, hB]
              have c1 : w3.cell? ⟨Pb, 1, none⟩ = some (.slice (some ⟨Bf, 0, none⟩) n fc) := (cell_of_row _ _ _ _ _ _ HP3.out.plan).trans rfl
              have hfc := far_cell HF3.out k hlt
              have hff : w3.frozen? ⟨Bf, k, none⟩ = false := frozen_of_row _ _ _ _ _ HF3.out
              have HEnd : Hid (∃ k', k' ≤ n ∧ Value.int .i64 (k + 1) = .int .i64 k' ∧ Value.bool true = .bool (turned ls n far k') ∧ PlanAt (w3.setCell ⟨Bf, k, none⟩ (.bool true)) Pb (some ⟨b, off, none⟩) n c (some ⟨Bf, 0, none⟩) fc ls far w.heap.size pv Bm ∧ FarAt (w3.setCell ⟨Bf, k, none⟩ (.bool true)) (some ⟨Bf, 0, none⟩) n (mix ls n far k') ∧ kt.ButP (planOwn Pb (some ⟨Bf, 0, none⟩)) w (w3.setCell ⟨Bf, k, none⟩ (.bool true))) := bl.hid (by
                refine ⟨k + 1, by omega, by go_num, ?_, HP3.out.keepF HF3.out (fun q _ hq => Below.heap_setCell _ _ _ _ hq), .inr ⟨Bf, rfl, ?_⟩, ?_⟩
                · show _ = Value.bool (turned ls n far k || (al.grow ls n far k && !far k))
                  rw [hg, HFk.out]
                  simp
                · rw [mix_vals ls n far k hlt hg]
                  exact heap_setCell_same _ _ _ _ _ _ HF3.out
                · exact (HBr.out.trans (kt.ButP.of_below HB3.out)).setCell (p := ⟨Bf, k, none⟩) (.inl (.inr ⟨0, none, rfl⟩)) _)
              have hk3 : k < n := hlt
              have lb3 : Bf < w3.heap.size := by have := HB2.out.size; omega
              have lp3 : Pb < w3.heap.size := by have := HB2.out.size; omega
              clear hg
              rcases hout with ho | ho
              · go_wp2
                exact ⟨HEnd.out, by simp [intOf]; omega⟩
              · have ho2 : ¬ d < -4096 := by omega
                go_wp2
                exact ⟨HEnd.out, by simp [intOf]; omega⟩
            · have hg : al.grow ls n far k = far k := by
                unfold al.grow al.cand al.out
                rw [HX.out, HD.out, decide_eq_false hout]
                simp
              have HG := bl.hid (HStay.out w3 hg HB3.out)
              have ho1 : -4096 ≤ d := by omega
              have ho2 : d ≤ 4094 := by omega
              clear hg hout
              go_wp2
              exact ⟨HG.out, by simp [intOf]; omega⟩
          · rw [hfk] at hfc
            have HG := bl.hid (HStay.out w2 (by rw [hfk]; exact al.grow_mono ls n far k hfk) HB2.out)
            clear hfk
            go_wp2
            exact ⟨HG.out, by simp [intOf]; omega⟩
        · have hB : al.isB op = false := by simpa using hB
          have hne := HFm.out.2 hB
          have hne2 : (fm.toList != [66]) = true := by unfold bne; rw [hne]; rfl
          have HG := bl.hid (HStay.out w2 (by unfold al.grow al.cand; rw [HX.out]; simp [hB]) HB2.out)
          clear hB
          go_wp2
          exact ⟨HG.out, by simp [intOf]; omega⟩
      · have hk1 : (kd != 2) = true := by simpa using hkd
        have HG : Hid (∀ o, _) := bl.hid (fun o => HStay.out (wr.alloc o) (by unfold al.grow al.cand; rw [HX.out]; simp [hkd]) (kt.below_row o))
        clear hkd hmk
        go_wp2
        exact ⟨HG.out _, by simp [intOf]; omega⟩
    · obtain rfl : k = n := by omega
      go_wp2
      go_ret
      exact ⟨by rw [HCh.out]; rfl, _, _, HPr.out, by rw [← mix_end]; exact HFr.out, HBr.out⟩
end Go.Proofs.Ytbcflhpaafpndaa
