/- Run, Reg, Set, Place, Jump, walked. -/
import Derived.Test.YtjjkocklpcdbkaaGreatStStep
namespace Go.Proofs.YtjjkocklpcdbkaaGreat
open Go.RowKit
set_option linter.unusedVariables false
set_option maxRecDepth 100000
namespace st
/-- so many steps, as long as none ends otherwise: how, how many, what is left -/
def runS (code : Nat → Told) (n : Nat) (s : S) : Nat → Int × Int × S
  | 0 => (0, 0, s)
  | k + 1 =>
    if (runS code n s k).1 ≠ 0 then runS code n s k
    else if (step code n (runS code n s k).2.2).1 = 0 then (0, (runS code n s k).2.1 + 1, (step code n (runS code n s k).2.2).2)
    else ((step code n (runS code n s k).2.2).1, (runS code n s k).2.1, (step code n (runS code n s k).2.2).2)
theorem runS_stuck (code : Nat → Told) (n : Nat) (s : S) (k : Nat) (h : (runS code n s k).1 ≠ 0) : ∀ m, k ≤ m → runS code n s m = runS code n s k
  | 0, hm => by rw [show k = 0 by omega]
  | m + 1, hm => by
    by_cases e : k = m + 1
    · rw [e]
    · have ih := runS_stuck code n s k h m (by omega)
      show (if (runS code n s m).1 ≠ 0 then runS code n s m else _) = _
      rw [if_pos (by rw [ih]; exact h), ih]
theorem runS_ran (code : Nat → Told) (n : Nat) (s : S) (k : Nat) (h : (runS code n s k).1 = 0) : runS code n s (k + 1) = if (step code n (runS code n s k).2.2).1 = 0 then (0, (runS code n s k).2.1 + 1, (step code n (runS code n s k).2.2).2) else ((step code n (runS code n s k).2.2).1, (runS code n s k).2.1, (step code n (runS code n s k).2.2).2) := by
  show (if (runS code n s k).1 ≠ 0 then _ else _) = _
  rw [if_neg (by rw [h]; simp)]
theorem runS_many (code : Nat → Told) (n : Nat) (s : S) : ∀ k : Nat, 0 ≤ (runS code n s k).2.1 ∧ (runS code n s k).2.1 ≤ k
  | 0 => ⟨Int.le_refl _, by show (0 : Int) ≤ ((0 : Nat) : Int); omega⟩
  | k + 1 => by
    have ih := runS_many code n s k
    show 0 ≤ (if _ then _ else if _ then _ else _ : Int × Int × S).2.1 ∧ (if _ then _ else if _ then _ else _ : Int × Int × S).2.1 ≤ _
    split
    · omega
    · split
      · dsimp only; omega
      · dsimp only; omega
end st
theorem place_any (w : World) (P : st.Pl) (code : Nat → st.Told) (s : st.S) (h : IsMach w P code s) :
    Calls Tryz.prog 20 #[.pointer (some ⟨P.p, 0, none⟩)] w fun e w' => e = .returned (.int .u64 s.pc) ∧ w' = w := by
  have c := h.pcC
  have HN := bl.hid (mnone_any w P code s h)
  clear h
  go_enter Tryz.func20, Tryz.ntmps20
  go_wp2_with fail
  refine HN.out.mono ?_
  rintro e w1 ⟨rfl, rfl⟩
  go_wp2
  go_ret
  exact ⟨rfl, rfl⟩
theorem mjump_any (w : World) (P : st.Pl) (code : Nat → st.Told) (s : st.S) (a : Int) (h : IsMach w P code s) (ha : st.isU a) :
    Calls Tryz.prog 16 #[.pointer (some ⟨P.p, 0, none⟩), .int .u64 a] w (TurnPost P code (.int .i64 0) (s.go a) w) := by
  have c := h.pcC
  have fr := frozen_of_row w P.p 32 _ _ h.row
  have HN := bl.hid (mnone_any w P code s h)
  have HE : Hid (TurnPost P code (.int .i64 0) (s.go a) w (.returned (.int .i64 0)) (w.setCell ⟨P.p, 32, none⟩ (.int .u64 a))) := bl.hid ⟨rfl, h.turn (kt.Only.setCell _ _ _ _) rfl (by rw [heap_setCell_same _ _ _ _ _ _ h.row, st.mcells_go]) (h.ok.go a ha), But2.of_only (kt.Only.setCell _ _ _ _)⟩
  clear h
  go_enter Tryz.func16, Tryz.ntmps16
  go_wp2_with fail
  refine HN.out.mono ?_
  rintro e w1 ⟨rfl, rfl⟩
  go_wp2
  go_ret
  exact HE.out
namespace st
/-- what Reg tells, and Set -/
def S.reg (s : S) (n : Int) : Int := if 0 ≤ n ∧ n < 32 then s.rg n else 0
def S.set (s : S) (n v : Int) : S := if 0 ≤ n ∧ n < 32 then s.put n v else s
def setE (n : Int) : Int := if 0 ≤ n ∧ n < 32 then 0 else 2
end st
theorem reg_any (w : World) (P : st.Pl) (code : Nat → st.Told) (s : st.S) (n : Int) (h : IsMach w P code s) (hn : -9223372036854775808 ≤ n ∧ n ≤ 9223372036854775807) :
    Calls Tryz.prog 19 #[.pointer (some ⟨P.p, 0, none⟩), .int .i64 n] w fun e w' => e = .returned (.int .u64 (s.reg n)) ∧ ∃ m, w' = w.drewN m := by
  have HN := bl.hid (mnone_any w P code s h)
  by_cases h1 : 0 ≤ n ∧ n < 32
  · obtain ⟨k, rfl⟩ : ∃ k : Nat, n = k := ⟨n.toNat, by omega⟩
    have hk : k < 32 := by omega
    have c := h.regC k hk
    have hr : s.reg k = s.r k := by unfold st.S.reg st.S.rg; rw [if_pos h1, Int.toNat_natCast]
    rw [hr]
    have hk2 : (k : Int) < 32 := by omega
    clear h h1 hn hr
    go_enter Tryz.func19, Tryz.ntmps19
    go_wp2_with fail
    refine HN.out.mono ?_
    rintro e w1 ⟨rfl, rfl⟩
    go_wp2
    go_ret
    exact ⟨rfl, 0, rfl⟩
  · have hr : s.reg n = 0 := by unfold st.S.reg; rw [if_neg h1]
    rw [hr]
    by_cases h2 : n < 0
    · clear h h1 hr
      go_enter Tryz.func19, Tryz.ntmps19
      go_wp2_with fail
      refine HN.out.mono ?_
      rintro e w1 ⟨rfl, rfl⟩
      go_wp2
      go_ret
      exact ⟨rfl, 0, rfl⟩
    · have h3 : 32 ≤ n := by omega
      clear h h1 hr
      go_enter Tryz.func19, Tryz.ntmps19
      go_wp2_with fail
      refine HN.out.mono ?_
      rintro e w1 ⟨rfl, rfl⟩
      go_wp2
      go_ret
      exact ⟨rfl, 0, rfl⟩
theorem mset_any (w : World) (P : st.Pl) (code : Nat → st.Told) (s : st.S) (n v : Int) (h : IsMach w P code s) (hv : st.isU v) :
    Calls Tryz.prog 14 #[.pointer (some ⟨P.p, 0, none⟩), .int .i64 n, .int .u64 v] w (TurnPost P code (.int .i64 (st.setE n)) (s.set n v) w) := by
  have HN := bl.hid (mnone_any w P code s h)
  by_cases h1 : 0 ≤ n ∧ n < 32
  · have HP := bl.hid (put_any w P code s n v h (by omega) hv)
    have he : st.setE n = 0 := by unfold st.setE; rw [if_pos h1]
    have hs : s.set n v = s.put n v := by unfold st.S.set; rw [if_pos h1]
    rw [he, hs]
    obtain ⟨h2, h3⟩ := h1
    clear h hv he hs
    go_enter Tryz.func14, Tryz.ntmps14
    go_wp2_with fail
    refine HN.out.mono ?_
    rintro e w1 ⟨rfl, rfl⟩
    go_wp2_with fail
    refine HP.out.mono ?_
    rintro e w2 ⟨rfl, q1, q2⟩
    have Q1 := bl.hid q1
    have Q2 := bl.hid q2
    clear q1 q2
    go_wp2
    go_ret
    exact ⟨rfl, Q1.out, Q2.out⟩
  · have HE : Hid (TurnPost P code (.int .i64 2) s w (.returned (.int .i64 2)) w) := bl.hid ⟨rfl, h, But2.refl _ _ _⟩
    have he : st.setE n = 2 := by unfold st.setE; rw [if_neg h1]
    have hs : s.set n v = s := by unfold st.S.set; rw [if_neg h1]
    rw [he, hs]
    by_cases h2 : n < 0
    · clear h hv he hs h1
      go_enter Tryz.func14, Tryz.ntmps14
      go_wp2_with fail
      refine HN.out.mono ?_
      rintro e w1 ⟨rfl, rfl⟩
      go_wp2
      go_ret
      exact HE.out
    · have h3 : 32 ≤ n := by omega
      clear h hv he hs h1
      go_enter Tryz.func14, Tryz.ntmps14
      go_wp2_with fail
      refine HN.out.mono ?_
      rintro e w1 ⟨rfl, rfl⟩
      go_wp2
      go_ret
      exact HE.out
/-- what Run tells -/
def RunPost (P : st.Pl) (code : Nat → st.Told) (r : Int × Int × st.S) (w : World) (e : Ending) (w' : World) : Prop := e = .returned (.tuple #[.int .i64 r.1, .int .i64 r.2.1]) ∧ IsMach w' P code r.2.2 ∧ But2 P.p P.g w w'
set_option maxHeartbeats 1600000 in
theorem run_any (w : World) (P : st.Pl) (code : Nat → st.Told) (s : st.S) (n : Int) (h : IsMach w P code s) (hn : -9223372036854775808 ≤ n ∧ n ≤ 9223372036854775807) :
    Calls Tryz.prog 12 #[.pointer (some ⟨P.p, 0, none⟩), .int .i64 n] w (RunPost P code (st.runS code P.n s n.toNat) w) := by
  have HM := bl.hid h
  have HSt : Hid (∀ w1 s1, IsMach w1 P code s1 → Calls Tryz.prog 10 #[.pointer (some ⟨P.p, 0, none⟩)] w1 (TurnPost P code (.int .i64 (st.step code P.n s1).1) (st.step code P.n s1).2 w1)) := bl.hid (fun w1 s1 h1 => step_any w1 P code s1 h1)
  clear h
  go_enter Tryz.func12, Tryz.ntmps12
  go_wp2
  go_loopw [6, 7, 8] (fun u v x wr => ∃ k : Nat, k ≤ n.toNat ∧ u = .int .i64 (st.runS code P.n s k).1 ∧ v = .int .i64 (st.runS code P.n s k).2.1 ∧ x = .int .i64 k ∧ IsMach wr P code (st.runS code P.n s k).2.2 ∧ But2 P.p P.g w wr) (fun _ _ x _ => n.toNat - (intOf x).toNat)
  case atStart => exact ⟨0, by omega, rfl, rfl, rfl, HM.out, But2.refl _ _ _⟩
  case round =>
    obtain ⟨k, hk, rfl, rfl, rfl, hm, hb⟩ := hrel
    have hmany := st.runS_many code P.n s k
    have hstuck := st.runS_stuck code P.n s k
    have hran := st.runS_ran code P.n s k
    obtain ⟨r, hr⟩ : ∃ r, st.runS code P.n s k = r := ⟨_, rfl⟩
    rw [hr] at hm hmany hstuck hran ⊢
    obtain ⟨how, many, s1⟩ := r
    dsimp only at hm hmany hstuck hran ⊢
    obtain ⟨hm0, hm1⟩ := hmany
    have HR := bl.hid hr
    have HB := bl.hid hb
    by_cases hlt : k < n.toNat
    · have hlt2 : (k : Int) < n := by omega
      by_cases hh : how = 0
      · subst hh
        have HS1 := bl.hid (HSt.out wr s1 hm)
        have HRan := bl.hid (hran rfl)
        obtain ⟨r2, hr2⟩ : ∃ r2, st.step code P.n s1 = r2 := ⟨_, rfl⟩
        rw [hr2] at HS1 HRan
        obtain ⟨e2, s2⟩ := r2
        dsimp only at HS1 HRan
        clear hm hran hstuck hr hb hr2
        go_wp2_with fail
        refine HS1.out.mono ?_
        rintro e w1 ⟨rfl, q1, q2⟩
        have Q1 := bl.hid q1
        have Q2 := bl.hid (HB.out.trans q2)
        clear q1 q2
        by_cases h2 : e2 = 0
        · subst h2
          have hn2 : many + 1 ≤ 9223372036854775807 := by omega
          have HN : Hid (st.runS code P.n s (k + 1) = (0, many + 1, s2)) := bl.hid (by rw [HRan.out, if_pos rfl])
          go_wp2
          exact ⟨⟨k + 1, by omega, by rw [HN.out], by rw [HN.out], by go_num, by rw [HN.out]; exact Q1.out, Q2.out⟩, by simp [intOf]; omega⟩
        · have h2' : (e2 == 0) = false := by simpa using h2
          have HN : Hid (st.runS code P.n s (k + 1) = (e2, many, s2)) := bl.hid (by rw [HRan.out, if_neg h2])
          clear h2
          go_wp2
          exact ⟨⟨k + 1, by omega, by rw [HN.out], by rw [HN.out], by go_num, by rw [HN.out]; exact Q1.out, Q2.out⟩, by simp [intOf]; omega⟩
      · have hh' : (how == 0) = false := by simpa using hh
        have HE : Hid (RunPost P code (st.runS code P.n s n.toNat) w (.returned (.tuple #[.int .i64 how, .int .i64 many])) wr) := bl.hid (by rw [hstuck hh n.toNat hk]; exact ⟨rfl, hm, hb⟩)
        clear hm hran hstuck hr hb hh
        go_wp2
        go_ret2
        exact HE.out
    · obtain rfl : k = n.toNat := by omega
      have hge : ¬ ((n.toNat : Int) < n) := by omega
      have hge2 : n ≤ (n.toNat : Int) := by omega
      have HE : Hid (RunPost P code (st.runS code P.n s n.toNat) w (.returned (.tuple #[.int .i64 how, .int .i64 many])) wr) := bl.hid (by rw [hr]; exact ⟨rfl, hm, hb⟩)
      clear hm hran hstuck hr hb
      go_wp2
      go_ret2
      exact HE.out
end Go.Proofs.YtjjkocklpcdbkaaGreat
