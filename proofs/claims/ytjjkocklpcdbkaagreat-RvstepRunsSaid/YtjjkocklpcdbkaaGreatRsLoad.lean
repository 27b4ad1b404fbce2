/- Words are copied; the reference's Load and Run; SameWords, OverWords. -/
import Derived.Test.YtjjkocklpcdbkaaGreatRsStep
namespace Go.Proofs.YtjjkocklpcdbkaaGreat
open Go.RowKit
set_option linter.unusedVariables false
set_option maxRecDepth 100000
/-- a word's cell -/
def kt.IsU32 (c : Value) : Prop := ∃ z : Int, 0 ≤ z ∧ z < 4294967296 ∧ c = .int .u32 z
theorem zero_u32 : ∀ c ∈ (Value.int .u32 0).cells.toList, kt.IsU32 c := by
  intro c hc
  simp [Value.cells] at hc
  exact ⟨0, by decide, by decide, hc⟩
def kt.wordsL (f : Nat → Int) (n : Nat) : List Value := (List.range n).map (fun i => Value.int .u32 (f i))
/-- words are appended to none -/
theorem kt.wpList_copy_words {w : World} {ops : Array Oper} {rest : List Oper} {o : Oper} {a : Act} {Q : Exit → Act → World → Prop} (hgd : o.guard = none) (s x : Operand)
    (ho : o.op = .call { callee := .builtin .append, args := #[s, x], argTypes := #[22, 22] })
    (B : Nat) (v : Value) (hs : a.eval s = v) (hown : kt.Own kt.IsU32 w B 97 1 v 0 []) (ad : Option Addr) (n c : Nat) (f : Nat → Int) (hx : a.eval x = .slice ad n c) (hw : WordsAt w ad n f) (hn : n ≤ 65536) (hB : B ≤ w.heap.size)
    (h : ∀ v' w', kt.Own kt.IsU32 w' B 97 1 v' n (kt.wordsL f n) → w.grownBy w' v.ownBlock → wpList Tryz.prog ops Q rest (a.put o.dst v') w') : wpList Tryz.prog ops Q (o :: rest) a w := by
  obtain ⟨i0, hi, hz0, hz1, hz2⟩ := info_parts u32_parts
  by_cases h0 : n = 0
  · subst h0
    cases ad with
    | none =>
      refine kt.wpList_append_Own_none kt.IsU32 hgd s x 22 ho B 97 i0 1 Tryz.underlying22 hi v 0 c [] hs hown hx ?_
      exact h v w hown ⟨rfl, rfl, rfl, Nat.le_refl _, fun _ _ _ => rfl⟩
    | some ad =>
      refine kt.wpList_append_Own kt.IsU32 hgd s x 22 ho B 97 i0 (.int .u32 0) 1 4 Tryz.underlying22 hi hz0 hz1 hz2 rfl zero_u32 v 0 [] hs hown ad 0 c [] hx rfl (by simp) (by simp) (by simp) (by unfold maxLen; omega) (by omega) hB ?_
      intro v' w' h1 h2
      exact h v' w' h1 h2
  · obtain ⟨b, off, ea, hc⟩ := hw.2.resolve_left h0
    subst ea
    refine kt.wpList_append_Own kt.IsU32 hgd s x 22 ho B 97 i0 (.int .u32 0) 1 4 Tryz.underlying22 hi hz0 hz1 hz2 rfl zero_u32 v 0 [] hs hown ⟨b, off, none⟩ n c (kt.wordsL f n) hx (by unfold kt.wordsL; simp) ?_ ?_ ?_ (by unfold maxLen; omega) (by omega) hB ?_
    · intro j u hu
      have hadd : (⟨b, off, none⟩ : Addr).add j = ⟨b, off + j, none⟩ := by unfold Addr.add; split <;> simp_all
      rw [hadd]
      unfold kt.wordsL at hu
      have hj : j < n := by
        have := (List.getElem?_eq_some_iff.1 hu).1
        simpa using this
      rw [hc j hj]
      simpa [hj] using hu
    · intro u hu
      unfold kt.wordsL at hu
      simp at hu
      obtain ⟨j, _, rfl⟩ := hu
      rfl
    · intro u hu
      unfold kt.wordsL at hu
      simp at hu
      obtain ⟨j, hj, rfl⟩ := hu
      exact ⟨f j, (hw.1 j hj).1, (hw.1 j hj).2, rfl⟩
    · intro v' w' h1 h2
      refine h v' w' ?_ h2
      simpa using h1
theorem WordsAt.of_own {w : World} {B : Nat} {a : Option Addr} {n c : Nat} {f : Nat → Int} (h : kt.Own kt.IsU32 w B 97 1 (.slice a n c) n (kt.wordsL f n)) (hf : ∀ i, i < n → 0 ≤ f i ∧ f i < 4294967296) : WordsAt w a n f := by
  refine ⟨hf, ?_⟩
  rcases h.2 with ⟨_, h0⟩ | ⟨g, cap, cur, e, h2, h3, h4, h5, h6, h7, h8⟩
  · exact .inl h0
  · injection e with e1 e2 e3
    subst e1
    refine .inr ⟨g, 0, rfl, fun i hi => ?_⟩
    rw [cell_of_row _ _ _ _ _ _ h3, Nat.zero_add]
    have : (cur.take (n * 1))[i]? = (kt.wordsL f n)[i]? := by rw [h7]
    rw [List.getElem?_take_of_lt (by omega)] at this
    rw [List.getElem?_toArray, this]
    unfold kt.wordsL
    simp [hi]
/-- what the reference's Load answers -/
def RLoadPost (P : st.Pl) (n : Nat) (f : Nat → Int) (s : st.S) (w : World) (e : Ending) (w' : World) : Prop :=
  ∃ ca c, e = .returned (.int .i64 0) ∧ IsRM w' { P with ca := ca, n := n, c := c } f s ∧ But2 P.p P.p w w' ∧ ∀ ad, ca = some ad → w.heap.size ≤ ad.block
set_option maxHeartbeats 1600000 in
theorem rsload_any (w : World) (P : st.Pl) (f0 : Nat → Int) (s : st.S) (a : Option Addr) (n c : Nat) (f : Nat → Int) (h : IsRM w P f0 s) (hw : WordsAt w a n f) (hn : n ≤ 65536) :
    Calls Tryz.prog 25 #[.pointer (some ⟨P.p, 0, none⟩), .slice a n c] w (RLoadPost P n f s w) := by
  have hemp := kt.Own.empty kt.IsU32 w 97 1
  have hw1 := hw.keep (kt.below_row (w := w) (.cells #[] 97))
  have HH := bl.hid h
  have HW := bl.hid hw.1
  have hn2 : (n : Int) ≤ 65536 := by omega
  clear h
  go_enter Tryz.func25, Tryz.ntmps25
  go_wp2_with (at_builtin; refine kt.wpList_copy_words rfl _ _ rfl w.heap.size _ rfl hemp a n c f rfl hw1 hn (by simp) ?_)
  intro v' w1 hown hgrow
  have hB1 := hemp.below_grown (kt.below_row _) (by simp) hgrow
  obtain ⟨a', c', hv⟩ := hown.shape
  subst hv
  have hm := HH.out.keep hB1
  have c34 := hm.codeC
  have fr := frozen_of_row w1 P.p 34 _ _ hm.row
  have HO := bl.hid hown
  have HB := bl.hid hB1
  have HM := bl.hid hm
  clear hown hgrow hB1 hm hw hw1 hemp
  go_wp2
  go_ret
  have hr := HM.out.row
  have h1 : (w1.setCell ⟨P.p, 34, none⟩ (.slice a' n c')).heap[P.p]? = _ := heap_setCell_same _ _ _ _ _ _ hr
  rw [st.rcells_code] at h1
  have ho : kt.Only P.p w1 (w1.setCell ⟨P.p, 34, none⟩ (.slice a' n c')) := kt.Only.setCell _ _ _ _
  refine ⟨a', c', rfl, ⟨h1, HM.out.mem.kept (ho.block _ HM.out.ne_mp.symm) (ho.block _ HM.out.ne_g.symm), HW.out, ?_, HM.out.ok, hn⟩, (But2.of_below HB.out).trans (But2.of_only ho), fun ad e => (HO.out.lt ad.block (by subst e; rfl)).1⟩
  show n = 0 ∨ _
  rcases HO.out.2 with ⟨_, h0⟩ | ⟨g, cap, cur, e, h2, h3, h4, h5, h6, h7, h8⟩
  · exact .inl h0
  · injection e with e1 e2 e3
    refine .inr ⟨g, e1, cur.drop n, ?_⟩
    have h7' : cur.take n = kt.wordsL f n := by rw [← h7, Nat.mul_one]
    have e1 : kt.wordsL f n ++ cur.drop n = cur := by rw [← h7', List.take_append_drop]
    rw [ho.block _ (type_ne h3 hr (by decide)), h3]
    show _ = some (Obj.cells (kt.wordsL f n ++ cur.drop n).toArray _ _)
    rw [e1]
theorem st.runS_full (code : Nat → st.Told) (n : Nat) (s : st.S) : ∀ k : Nat, (st.runS code n s k).1 = 0 → (st.runS code n s k).2.1 = k
  | 0, _ => rfl
  | k + 1, h => by
    by_cases h0 : (st.runS code n s k).1 = 0
    · have ih := st.runS_full code n s k h0
      have e := st.runS_ran code n s k h0
      rw [e] at h ⊢
      by_cases h1 : (st.step code n (st.runS code n s k).2.2).1 = 0
      · rw [if_pos h1]
        show (st.runS code n s k).2.1 + 1 = _
        rw [ih]
        omega
      · rw [if_neg h1] at h
        exact absurd h h1
    · have e := st.runS_stuck code n s k h0 (k + 1) (by omega)
      rw [e] at h
      exact absurd h h0
/-- what the reference's Run tells -/
def RRunPost (P : st.Pl) (f : Nat → Int) (r : Int × Int × st.S) (w : World) (e : Ending) (w' : World) : Prop := e = .returned (.tuple #[.int .i64 r.1, .int .i64 r.2.1]) ∧ IsRM w' P f r.2.2 ∧ But2 P.p P.g w w'
set_option maxHeartbeats 1600000 in
theorem rsrun_any (w : World) (P : st.Pl) (f : Nat → Int) (s : st.S) (n : Int) (h : IsRM w P f s) (hn : -9223372036854775808 ≤ n ∧ n ≤ 9223372036854775807) :
    Calls Tryz.prog 13 #[.pointer (some ⟨P.p, 0, none⟩), .int .i64 n] w (RRunPost P f (st.runS (fun k => st.toldOf (f k)) P.n s n.toNat) w) := by
  have HM := bl.hid h
  obtain ⟨code, hcode⟩ : ∃ code, (fun k => st.toldOf (f k)) = code := ⟨_, rfl⟩
  have HSt : Hid (∀ w1 s1, IsRM w1 P f s1 → Calls Tryz.prog 11 #[.pointer (some ⟨P.p, 0, none⟩)] w1 (RTurn P f (.int .i64 (st.step code P.n s1).1) (st.step code P.n s1).2 w1)) := bl.hid (fun w1 s1 h1 => by rw [← hcode]; exact rstep_any w1 P f s1 h1)
  rw [hcode]
  clear h hcode
  go_enter Tryz.func13, Tryz.ntmps13
  go_wp2
  go_loopw [6] (fun x wr => ∃ k : Nat, k ≤ n.toNat ∧ x = .int .i64 k ∧ (st.runS code P.n s k).1 = 0 ∧ IsRM wr P f (st.runS code P.n s k).2.2 ∧ But2 P.p P.g w wr) (fun x _ => n.toNat - (intOf x).toNat)
  case atStart => exact ⟨0, by omega, rfl, rfl, HM.out, But2.refl _ _ _⟩
  case round =>
    obtain ⟨k, hk, rfl, h0, hm, hb⟩ := hrel
    have hfull := st.runS_full code P.n s k h0
    have hstuck := st.runS_stuck code P.n s (k + 1)
    have hran := st.runS_ran code P.n s k h0
    obtain ⟨r, hr⟩ : ∃ r, st.runS code P.n s k = r := ⟨_, rfl⟩
    rw [hr] at h0 hm hfull hran
    obtain ⟨how, many, s1⟩ := r
    dsimp only at h0 hm hfull hran
    subst h0 hfull
    have HR := bl.hid hr
    have HB := bl.hid hb
    by_cases hlt : k < n.toNat
    · have hlt2 : (k : Int) < n := by omega
      have HS1 := bl.hid (HSt.out wr s1 hm)
      have HRan := bl.hid hran
      have HStk := bl.hid hstuck
      obtain ⟨r2, hr2⟩ : ∃ r2, st.step code P.n s1 = r2 := ⟨_, rfl⟩
      rw [hr2] at HS1 HRan
      obtain ⟨e2, s2⟩ := r2
      dsimp only at HS1 HRan
      clear hm hran hstuck hr hb hr2
      go_wp2_with fail
      refine HS1.out.mono ?_
      rintro e w1 ⟨rfl, q1, q2⟩
      have Q1 := bl.hid q1
      have Q2 := bl.hid (HB.out.trans q2)
      clear q1 q2
      by_cases h2 : e2 = 0
      · subst h2
        have HN : Hid (st.runS code P.n s (k + 1) = (0, (k : Int) + 1, s2)) := bl.hid (by rw [HRan.out, if_pos rfl])
        go_wp2
        exact ⟨⟨k + 1, by omega, by go_num, by rw [HN.out], by rw [HN.out]; exact Q1.out, Q2.out⟩, by simp [intOf]; omega⟩
      · have h2' : (e2 == 0) = false := by simpa using h2
        have HN : Hid (st.runS code P.n s (k + 1) = (e2, (k : Int), s2)) := bl.hid (by rw [HRan.out, if_neg h2])
        have HE : Hid (RRunPost P f (st.runS code P.n s n.toNat) w (.returned (.tuple #[.int .i64 e2, .int .i64 k])) w1) := bl.hid (by
          rw [HStk.out (by rw [HN.out]; exact h2) n.toNat (by omega), HN.out]
          exact ⟨rfl, Q1.out, Q2.out⟩)
        clear h2
        go_wp2
        go_ret2
        exact HE.out
    · obtain rfl : k = n.toNat := by omega
      have HE : Hid (RRunPost P f (st.runS code P.n s n.toNat) w (.returned (.tuple #[.int .i64 0, .int .i64 (n.toNat : Int)])) wr) := bl.hid (by rw [hr]; exact ⟨rfl, hm, hb⟩)
      have hge : ¬ ((n.toNat : Int) < n) := by omega
      have hge2 : n ≤ (n.toNat : Int) := by omega
      rw [show ((n.toNat : Nat) : Int) = max n 0 by omega] at HE
      clear hm hran hstuck hr hb
      go_wp2
      go_ret2
      exact HE.out
end Go.Proofs.YtjjkocklpcdbkaaGreat
