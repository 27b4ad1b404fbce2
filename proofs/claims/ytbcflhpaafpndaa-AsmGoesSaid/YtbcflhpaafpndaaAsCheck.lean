/- Check: why lines may not be. -/
import Derived.Test.YtbcflhpaafpndaaAsFine2
import Derived.Maps.OwnOps
namespace Go.Proofs.Ytbcflhpaafpndaa
open Go.RowKit
set_option linter.unusedVariables false
namespace al
open kt
/-- does a label stand in the first lines -/
def has (ls : Nat → Ln) : Nat → Int → Bool
  | 0, _ => false
  | i + 1, x => has ls i x || (decide ((ls i).kind = 1) && decide ((ls i).label = x))
/-- the first error of the first lines -/
def e1 (ls : Nat → Ln) : Nat → Int
  | 0 => 0
  | i + 1 => if e1 ls i ≠ 0 then e1 ls i else if fine (ls i) = false then 2 else if (ls i).kind = 1 ∧ has ls i (ls i).label = true then 7 else 0
/-- does a line go nowhere, of the first ones -/
def e2 (ls : Nat → Ln) (n : Nat) : Nat → Int
  | 0 => 0
  | i + 1 => if e2 ls n i ≠ 0 then e2 ls n i else if (ls i).kind = 2 ∧ has ls n (ls i).label = false then 6 else 0
def check (ls : Nat → Ln) (n : Nat) : Int := if 4000 < n then 3 else if e1 ls n ≠ 0 then e1 ls n else e2 ls n n
theorem e1_stop (ls : Nat → Ln) (i : Nat) (h : e1 ls i ≠ 0) : ∀ m, i ≤ m → e1 ls m = e1 ls i
  | 0, hm => by rw [show i = 0 by omega]
  | m + 1, hm => by
    by_cases e : i = m + 1
    · rw [e]
    · have := e1_stop ls i h m (by omega)
      show (if e1 ls m ≠ 0 then e1 ls m else _) = _
      rw [if_pos (by rw [this]; exact h), this]
theorem e2_stop (ls : Nat → Ln) (n i : Nat) (h : e2 ls n i ≠ 0) : ∀ m, i ≤ m → e2 ls n m = e2 ls n i
  | 0, hm => by rw [show i = 0 by omega]
  | m + 1, hm => by
    by_cases e : i = m + 1
    · rw [e]
    · have := e2_stop ls n i h m (by omega)
      show (if e2 ls n m ≠ 0 then e2 ls n m else _) = _
      rw [if_pos (by rw [this]; exact h), this]
theorem has_one (ls : Nat → Ln) (i : Nat) (x : Int) : has ls (i + 1) x = (has ls i x || (decide ((ls i).kind = 1) && decide ((ls i).label = x))) := rfl
end al
def hasF (ls : Nat → kt.Ln) (k : Nat) : Int → Int := fun x => if al.has ls k x then 1 else 0
set_option maxRecDepth 100000 in
set_option maxHeartbeats 3200000 in
theorem acheck_any (a : Option Addr) (n c : Nat) (ls : Nat → kt.Ln) (w : World) (hl : kt.Lines w a n ls) :
    Calls Try.prog 10 #[.slice a n c] w fun e w' => e = .returned (.int .i64 (al.check ls n)) ∧ Below w.heap.size w w' := by
  have hsm := hl.small
  by_cases hbig : 4000 < n
  · have hc : al.check ls n = 3 := by unfold al.check; rw [if_pos hbig]
    rw [hc]
    clear hc hl
    go_enter Try.func10, Try.ntmps10
    go_wp2
    go_ret
    exact ⟨rfl, Below.refl _ _⟩
  have hn : n ≤ 4000 := by omega
  have hn2 : ¬ (n : Int) > 4000 := by omega
  obtain ⟨R, hR⟩ : ∃ R, al.check ls n = R := ⟨_, rfl⟩
  rw [hR]
  have HR : Hid ((if al.e1 ls n ≠ 0 then al.e1 ls n else al.e2 ls n n) = R) := bl.hid (by rw [← hR]; unfold al.check; rw [if_neg hbig])
  have HL := bl.hid hl
  have hmm := @run_makeMap Try.prog
  clear hR hl hbig
  go_enter Try.func10, Try.ntmps10
  go_wp2
  have HM0 : Hid (kt.IntMap Try.prog 3 3 (w.alloc (.map #[] 0)) w.heap.size 0 (hasF ls 0)) := bl.hid (kt.IntMap.made w Try.prog 3 3)
  clear hmm
  go_loopw [14] (fun v wr => ∃ k : Nat, k ≤ n ∧ v = .int .i64 k ∧ al.e1 ls k = 0 ∧ kt.IntMap Try.prog 3 3 wr w.heap.size k (hasF ls k) ∧ Below w.heap.size w wr) (fun v _ => n - (intOf v).toNat)
  case atStart => exact ⟨0, by omega, rfl, rfl, HM0.out, kt.below_row _⟩
  case round =>
    obtain ⟨k, hk, rfl, he, hm, hb⟩ := hrel
    have HE := bl.hid he
    have HM := bl.hid hm
    have HB := bl.hid hb
    have hsz := hb.size
    have lm : w.heap.size < wr.heap.size := hm.lt
    clear he hm hb
    by_cases hlt : k < n
    · have hat : ∃ b off, a = some ⟨b, off, none⟩ ∧ kt.LnAt wr b (off + k * 7) (ls k) := by
        rcases (HL.out.keep HB.out).at' with h | ⟨b, off, e, h⟩
        · omega
        · exact ⟨b, off, e, h k hlt⟩
      obtain ⟨b, off, rfl, hla⟩ := hat
      obtain ⟨x, hx⟩ : ∃ x, ls k = x := ⟨_, rfl⟩
      rw [hx] at hla
      have HX := bl.hid hx
      have hok := HL.out.ok k hlt
      rw [hx] at hok
      have HOk := bl.hid hok
      have HFi := bl.hid (fun w => fine_any x w)
      clear hx hok
      obtain ⟨p, hp⟩ : ∃ p, al.fine x = p := ⟨_, rfl⟩
      rw [hp] at HFi
      have HFp := bl.hid hp
      clear hp
      obtain ⟨kd, lb, op, rd, rs1, rs2, im⟩ := x
      obtain ⟨l0, l1, l2, l3, l4, l5, l6⟩ := hla
      unfold kt.Ln.cells at HFi
      dsimp only at l0 l1 l2 l3 l4 l5 l6 HFi
      have lb0 : b < wr.heap.size := block_lt_of_cell l0
      go_wp2_with fail
      refine (HFi.out _).mono ?_
      rintro e w1 ⟨rfl, hb⟩
      obtain ⟨rb, hb1, hs1⟩ := one_box' hb
      have HRB := bl.hid rb
      have HB1 : Hid (Below w.heap.size w w1) := bl.hid (HB.out.trans (hb1.mono hsz))
      have HM1 : Hid (kt.IntMap Try.prog 3 3 w1 w.heap.size k (hasF ls k)) := bl.hid (HM.out.kept (hb1.block _ lm))
      clear l0 l1 l2 l3 l4 l5 l6 hb hb1 rb
      cases p
      · have HErr : Hid (R = 2) := bl.hid (by
          have h1 : al.e1 ls (k + 1) = 2 := by
            show (if al.e1 ls k ≠ 0 then al.e1 ls k else if al.fine (ls k) = false then 2 else _) = _
            rw [if_neg (by rw [HE.out]; simp), HX.out, if_pos HFp.out]
          have h2 := al.e1_stop ls (k + 1) (by rw [h1]; decide) n (by omega)
          rw [← HR.out, h2, h1]
          rfl)
        go_wp2
        go_ret
        exact ⟨by rw [HErr.out]; rfl, HB1.out⟩
      · have c0 : w1.cell? ⟨wr.heap.size, 0, none⟩ = some (.int .i64 kd) := (cell_of_row _ _ _ _ _ _ HRB.out).trans rfl
        have c1 : w1.cell? ⟨wr.heap.size, 1, none⟩ = some (.int .i64 lb) := (cell_of_row _ _ _ _ _ _ HRB.out).trans rfl
        have l1 : wr.heap.size < w1.heap.size := by omega
        have hwl : (Lit.int .i64 lb).wf = true := WalkArith.wf_i64 (by have := HOk.out.label; unfold kt.i64ok at this; dsimp only at this; omega)
        by_cases hkd : kd = 1
        · have hlk := HM1.out.look (t := 60) Try.underlying3 Try.underlying60 Try.underlying3 int_zero lb hwl
          subst hkd
          cases hh : al.has ls k lb
          · have hf : hasF ls k lb = 0 := by unfold hasF; rw [hh]; rfl
            rw [hf] at hlk
            have HNx : Hid (al.e1 ls (k + 1) = 0 ∧ (fun y => if y = lb then 1 else hasF ls k y) = hasF ls (k + 1)) := bl.hid (by
              constructor
              · show (if al.e1 ls k ≠ 0 then al.e1 ls k else if al.fine (ls k) = false then 2 else if (ls k).kind = 1 ∧ al.has ls k (ls k).label = true then 7 else 0) = _
                rw [if_neg (by rw [HE.out]; simp), HX.out, if_neg (by rw [HFp.out]; simp), if_neg (by dsimp only; rw [hh]; simp)]
              · funext y
                unfold hasF
                rw [al.has_one, HX.out]
                by_cases hy : y = lb
                · subst hy; simp
                · have : ¬ lb = y := fun h => hy h.symm
                  simp [hy, this])
            clear hf hh
            go_wp2_with (at_mapUpdate; refine kt.wpList_intPut (P := Try.prog) (t := 60) (k := 3) (e := 3) rfl _ _ _ rfl w.heap.size k (hasF ls k) HM1.out Try.underlying3 Try.underlying60 Try.underlying3 (by unfold maxLen; omega) lb 1 rfl rfl rfl hwl (by decide) ?_; intro w2 hM2 hg2)
            have hM2' : kt.IntMap Try.prog 3 3 w2 w.heap.size (k + 1) (hasF ls (k + 1)) := by rw [← HNx.out.2]; exact hM2
            exact ⟨⟨k + 1, by omega, by go_num, HNx.out.1, hM2', HB1.out.grown hg2 HB1.out.size (fun j hj => by injection hj with hj; omega)⟩, by simp [intOf]; omega⟩
          · have hf : hasF ls k lb = 1 := by unfold hasF; rw [hh]; rfl
            rw [hf] at hlk
            have HErr : Hid (R = 7) := bl.hid (by
              have h1 : al.e1 ls (k + 1) = 7 := by
                show (if al.e1 ls k ≠ 0 then al.e1 ls k else if al.fine (ls k) = false then 2 else if (ls k).kind = 1 ∧ al.has ls k (ls k).label = true then 7 else 0) = _
                rw [if_neg (by rw [HE.out]; simp), HX.out, if_neg (by rw [HFp.out]; simp), if_pos ⟨rfl, hh⟩]
              have h2 := al.e1_stop ls (k + 1) (by rw [h1]; decide) n (by omega)
              rw [← HR.out, h2, h1]
              rfl)
            clear hf hh
            go_wp2
            go_ret
            exact ⟨by rw [HErr.out]; rfl, HB1.out⟩
        · have hk1 : (kd == 1) = false := by simpa using hkd
          have HNx : Hid (al.e1 ls (k + 1) = 0 ∧ hasF ls k = hasF ls (k + 1)) := bl.hid (by
            constructor
            · show (if al.e1 ls k ≠ 0 then al.e1 ls k else if al.fine (ls k) = false then 2 else if (ls k).kind = 1 ∧ al.has ls k (ls k).label = true then 7 else 0) = _
              rw [if_neg (by rw [HE.out]; simp), HX.out, if_neg (by rw [HFp.out]; simp), if_neg (fun h => hkd h.1)]
            · funext y
              unfold hasF
              rw [al.has_one, HX.out]
              simp [hkd])
          have hM2' : kt.IntMap Try.prog 3 3 w1 w.heap.size (k + 1) (hasF ls (k + 1)) := by rw [← HNx.out.2]; exact HM1.out.mono (by omega)
          have HM2 := bl.hid hM2'
          clear hM2' hkd
          go_wp2
          exact ⟨⟨k + 1, by omega, by go_num, HNx.out.1, HM2.out, HB1.out⟩, by simp [intOf]; omega⟩
    · obtain rfl : k = n := by omega
      have HRr : Hid (al.e2 ls k k = R) := bl.hid (by rw [← HR.out, if_neg (by rw [HE.out]; simp)])
      go_wp2
      go_loopw [43] (fun v wr2 => ∃ j : Nat, j ≤ k ∧ v = .int .i64 j ∧ al.e2 ls k j = 0 ∧ kt.IntMap Try.prog 3 3 wr2 w.heap.size k (hasF ls k) ∧ Below w.heap.size w wr2) (fun v _ => k - (intOf v).toNat)
      case atStart => exact ⟨0, by omega, rfl, rfl, HM.out, HB.out⟩
      case round =>
        clear HM HB HE lm
        obtain ⟨j, hj, rfl, he, hm, hb⟩ := hrel
        have HE := bl.hid he
        have HM := bl.hid hm
        have HB := bl.hid hb
        clear he hm hb
        by_cases hlt : j < k
        · have hat : ∃ b off, a = some ⟨b, off, none⟩ ∧ kt.LnAt wr b (off + j * 7) (ls j) := by
            rcases (HL.out.keep HB.out).at' with h | ⟨b, off, e, h⟩
            · omega
            · exact ⟨b, off, e, h j hlt⟩
          obtain ⟨b, off, rfl, hla⟩ := hat
          obtain ⟨x, hx⟩ : ∃ x, ls j = x := ⟨_, rfl⟩
          rw [hx] at hla
          have HX := bl.hid hx
          have hok := HL.out.ok j hlt
          rw [hx] at hok
          have HOk := bl.hid hok
          clear hx hok
          obtain ⟨kd, lb, op, rd, rs1, rs2, im⟩ := x
          obtain ⟨l0, l1, l2, l3, l4, l5, l6⟩ := hla
          dsimp only at l0 l1 l2 l3 l4 l5 l6
          have hwl : (Lit.int .i64 lb).wf = true := WalkArith.wf_i64 (by have := HOk.out.label; unfold kt.i64ok at this; dsimp only at this; omega)
          have lb0 : b < wr.heap.size := block_lt_of_cell l0
          have hbx := kt.below_row (w := wr) (o := .cells #[.int .i64 kd, .int .i64 lb, .int .i64 op, .int .i64 rd, .int .i64 rs1, .int .i64 rs2, .int .i64 im] 35)
          have HB1 : Hid (Below w.heap.size w _) := bl.hid (HB.out.trans (hbx.mono HB.out.size))
          have HM1 : Hid (kt.IntMap Try.prog 3 3 _ w.heap.size k (hasF ls k)) := bl.hid (HM.out.kept (hbx.block _ HM.out.lt))
          clear hbx
          by_cases hkd : kd = 2
          · have hlk := HM1.out.look (t := 60) Try.underlying3 Try.underlying60 Try.underlying3 int_zero lb hwl
            subst hkd
            cases hh : al.has ls k lb
            · have hf : hasF ls k lb = 0 := by unfold hasF; rw [hh]; rfl
              rw [hf] at hlk
              have HErr : Hid (R = 6) := bl.hid (by
                have h1 : al.e2 ls k (j + 1) = 6 := by
                  show (if al.e2 ls k j ≠ 0 then al.e2 ls k j else if (ls j).kind = 2 ∧ al.has ls k (ls j).label = false then 6 else 0) = _
                  rw [if_neg (by rw [HE.out]; simp), HX.out, if_pos ⟨rfl, hh⟩]
                have h2 := al.e2_stop ls k (j + 1) (by rw [h1]; decide) k (by omega)
                rw [← HRr.out, h2, h1])
              clear hf hh
              go_wp2
              go_ret
              exact ⟨by rw [HErr.out]; rfl, HB1.out⟩
            · have hf : hasF ls k lb = 1 := by unfold hasF; rw [hh]; rfl
              rw [hf] at hlk
              have HNx : Hid (al.e2 ls k (j + 1) = 0) := bl.hid (by
                show (if al.e2 ls k j ≠ 0 then al.e2 ls k j else if (ls j).kind = 2 ∧ al.has ls k (ls j).label = false then 6 else 0) = _
                rw [if_neg (by rw [HE.out]; simp), HX.out, if_neg (by dsimp only; rw [hh]; simp)])
              clear hf hh
              go_wp2
              exact ⟨⟨j + 1, by omega, by go_num, HNx.out, HM1.out, HB1.out⟩, by simp [intOf]; omega⟩
          · have hk1 : (kd == 2) = false := by simpa using hkd
            have HNx : Hid (al.e2 ls k (j + 1) = 0) := bl.hid (by
              show (if al.e2 ls k j ≠ 0 then al.e2 ls k j else if (ls j).kind = 2 ∧ al.has ls k (ls j).label = false then 6 else 0) = _
              rw [if_neg (by rw [HE.out]; simp), HX.out, if_neg (fun h => hkd h.1)])
            clear hkd
            go_wp2
            exact ⟨⟨j + 1, by omega, by go_num, HNx.out, HM1.out, HB1.out⟩, by simp [intOf]; omega⟩
        · obtain rfl : j = k := by omega
          go_wp2
          go_ret
          exact ⟨by rw [← HRr.out, HE.out]; rfl, HB.out⟩
end Go.Proofs.Ytbcflhpaafpndaa
