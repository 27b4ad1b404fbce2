/- What AsmGoes asks of each line, in plain words. -/
import Derived.Test.YtbcflhpaafpndaaAsReach
namespace Go.Proofs.Ytbcflhpaafpndaa
open Go.RowKit
set_option linter.unusedVariables false
namespace al
open kt
theorem ins_at (ls : Nat → Ln) (n : Nat) (far : Nat → Bool) (i : Nat) (hi : i < n) (j : Nat) (x : In5) (h : (insOf ls n far i)[j]? = some x) : (inss ls n far n)[(inss ls n far i).length + j]? = some x := by
  obtain ⟨t, ht⟩ := inss_prefix' ls n far (i + 1) (n - (i + 1))
  have e : i + 1 + (n - (i + 1)) = n := by omega
  rw [e] at ht
  have h1 : inss ls n far (i + 1) = inss ls n far i ++ insOf ls n far i := rfl
  have hj : j < (insOf ls n far i).length := by
    rcases Nat.lt_or_ge j (insOf ls n far i).length with h2 | h2
    · exact h2
    · rw [List.getElem?_eq_none h2] at h
      cases h
  rw [ht, h1, List.append_assoc, List.getElem?_append_right (by omega), List.getElem?_append_left (by omega)]
  rw [← h]
  congr 1
  omega
/-- where a line's words begin -/
def pl (ls : Nat → Ln) (n : Nat) (i : Nat) : Nat := (inss ls n (farE ls n) i).length
theorem pl_place (ls : Nat → Ln) (n i : Nat) : place ls (farE ls n) i = pl ls n i := (inss_len ls n (farE ls n) i).symm
theorem pl_le (ls : Nat → Ln) (n i : Nat) (hi : i ≤ n) : pl ls n i ≤ pl ls n n := by
  have h := place_mono ls (farE ls n) i n hi
  rw [pl_place, pl_place] at h
  omega
theorem pl_two (ls : Nat → Ln) (n i : Nat) : pl ls n i ≤ 2 * i := inss_two ls n _ i
theorem pl_0 (ls : Nat → Ln) (n : Nat) : pl ls n 0 = 0 := rfl
/-- the words of lines that may be -/
def wd5 (ls : Nat → Ln) (n : Nat) : List In5 := inss ls n (farE ls n) n
theorem label_line (ls : Nat → Ln) (n i : Nat) (h : (ls i).kind = 1) : pl ls n (i + 1) = pl ls n i := by
  have := place_succ ls (farE ls n) i
  unfold size at this
  rw [if_pos h, pl_place, pl_place] at this
  omega
/-- a line of the kind 0 -/
theorem plain_line (ls : Nat → Ln) (n i : Nat) (hg : Good ls n) (hi : i < n) (h : (ls i).kind = 0) : pl ls n (i + 1) = pl ls n i + 1 ∧ wAt (wd5 ls n) (pl ls n i) = enc5 (self (ls i)) ∧ chk5 (self (ls i)) = 0 := by
  have hf : farE ls n i = false := by
    cases hf : farE ls n i
    · rfl
    · have := (farE_lt ls n i hf).2
      unfold cand at this
      rw [Bool.and_eq_true, decide_eq_true_eq] at this
      omega
  have hi5 : insOf ls n (farE ls n) i = [self (ls i)] := by
    unfold insOf
    rw [hf, if_neg (by omega), if_neg (by simp), if_neg (by omega)]
  refine ⟨?_, ?_, ?_⟩
  · show (inss ls n (farE ls n) i ++ insOf ls n (farE ls n) i).length = _
    rw [List.length_append, hi5]
    rfl
  · have := ins_at ls n (farE ls n) i hi 0 (self (ls i)) (by rw [hi5]; rfl)
    unfold wAt wd5 pl
    rw [Nat.add_zero] at this
    rw [this]
  · exact insOf_ok ls n hg i hi _ (by rw [hi5]; exact List.mem_cons_self)
/-- a line that goes, by itself -/
theorem near_line (ls : Nat → Ln) (n i : Nat) (hg : Good ls n) (hi : i < n) (h : (ls i).kind = 2) (hf : farE ls n i = false) :
    pl ls n (i + 1) = pl ls n i + 1 ∧ wAt (wd5 ls n) (pl ls n i) = rv.encI (ls i).op (ls i).rd (ls i).rs1 (ls i).rs2 (dist ls n (farE ls n) i) ∧ rv.chkI (ls i).op (ls i).rd (ls i).rs1 (ls i).rs2 (dist ls n (farE ls n) i) = 0 ∧ ((ls i).op = 3 ∨ (isB (ls i).op = true ∧ -4096 ≤ dist ls n (farE ls n) i ∧ dist ls n (farE ls n) i ≤ 4094)) := by
  have hi5 : insOf ls n (farE ls n) i = [⟨(ls i).op, (ls i).rd, (ls i).rs1, (ls i).rs2, dist ls n (farE ls n) i⟩] := by
    unfold insOf
    rw [hf, if_neg (by omega), if_neg (by simp), if_pos h]
  refine ⟨?_, ?_, ?_, ?_⟩
  · show (inss ls n (farE ls n) i ++ insOf ls n (farE ls n) i).length = _
    rw [List.length_append, hi5]
    rfl
  · have := ins_at ls n (farE ls n) i hi 0 _ (by rw [hi5]; rfl)
    unfold wAt wd5 pl
    rw [Nat.add_zero] at this
    rw [this]
    rfl
  · exact insOf_ok ls n hg i hi ⟨(ls i).op, (ls i).rd, (ls i).rs1, (ls i).rs2, dist ls n (farE ls n) i⟩ (by rw [hi5]; exact List.mem_cons_self)
  · have hfi := hg.fine i hi
    unfold fine at hfi
    rw [if_neg (by omega), if_neg (by omega), if_pos h, Bool.and_eq_true, Bool.and_eq_true, Bool.and_eq_true] at hfi
    have hgo := hfi.1.1.2
    unfold goesOp at hgo
    rw [Bool.or_eq_true, decide_eq_true_eq] at hgo
    rcases hgo with hb | h3
    · have ho := farE_fix ls n i hi (by unfold cand; rw [hb, decide_eq_true h]; rfl) hf
      unfold out at ho
      rw [decide_eq_false_iff_not] at ho
      exact .inr ⟨hb, by omega, by omega⟩
    · exact .inl h3
/-- a line that goes over its inverse -/
theorem far_line (ls : Nat → Ln) (n i : Nat) (hg : Good ls n) (hi : i < n) (h : (ls i).kind = 2) (hf : farE ls n i = true) :
    pl ls n (i + 1) = pl ls n i + 2 ∧ wAt (wd5 ls n) (pl ls n i) = rv.encI (inv (ls i).op) (ls i).rd (ls i).rs1 (ls i).rs2 8 ∧ wAt (wd5 ls n) (pl ls n i + 1) = rv.encI 3 0 0 0 (dist ls n (farE ls n) i - 4) ∧ rv.chkI (inv (ls i).op) (ls i).rd (ls i).rs1 (ls i).rs2 8 = 0 ∧ rv.chkI 3 0 0 0 (dist ls n (farE ls n) i - 4) = 0 ∧ isB (ls i).op = true ∧ (dist ls n (farE ls n) i < -4096 ∨ 4094 < dist ls n (farE ls n) i) := by
  have hi5 : insOf ls n (farE ls n) i = [⟨inv (ls i).op, (ls i).rd, (ls i).rs1, (ls i).rs2, 8⟩, ⟨3, 0, 0, 0, dist ls n (farE ls n) i - 4⟩] := by
    unfold insOf
    rw [hf, if_neg (by omega), if_pos rfl]
  refine ⟨?_, ?_, ?_, ?_, ?_, ?_, ?_⟩
  · show (inss ls n (farE ls n) i ++ insOf ls n (farE ls n) i).length = _
    rw [List.length_append, hi5]
    rfl
  · have := ins_at ls n (farE ls n) i hi 0 _ (by rw [hi5]; rfl)
    unfold wAt wd5 pl
    rw [Nat.add_zero] at this
    rw [this]
    rfl
  · have := ins_at ls n (farE ls n) i hi 1 _ (by rw [hi5]; rfl)
    unfold wAt wd5 pl
    rw [this]
    rfl
  · exact insOf_ok ls n hg i hi ⟨inv (ls i).op, (ls i).rd, (ls i).rs1, (ls i).rs2, 8⟩ (by rw [hi5]; exact List.mem_cons_self)
  · exact insOf_ok ls n hg i hi ⟨3, 0, 0, 0, dist ls n (farE ls n) i - 4⟩ (by rw [hi5]; exact List.mem_cons_of_mem _ List.mem_cons_self)
  · have := (farE_lt ls n i hf).2
    unfold cand at this
    rw [Bool.and_eq_true] at this
    exact this.2
  · have ho := far_out ls n (fun i hi hc => hg.goes i hi (by unfold cand at hc; rw [Bool.and_eq_true, decide_eq_true_eq] at hc; exact hc.1)) n i hf n (Nat.le_refl _)
    unfold out at ho
    rw [decide_eq_true_eq] at ho
    exact ho
/-- how far a line goes: from its place to its label's -/
theorem dist_line (ls : Nat → Ln) (n i j : Nat) (hj : labelAt ls n (ls i).label j) : dist ls n (farE ls n) i = 4 * ((pl ls n j : Int) - pl ls n i) := by
  unfold dist
  rw [lab_at ls _ _ j n hj, pl_place, pl_place]
theorem kinds (ls : Nat → Ln) (n i : Nat) (hg : Good ls n) (hi : i < n) : (ls i).kind = 0 ∨ (ls i).kind = 1 ∨ (ls i).kind = 2 := by
  have hf := hg.fine i hi
  unfold fine at hf
  by_cases h0 : (ls i).kind = 0
  · exact .inl h0
  rw [if_neg h0] at hf
  by_cases h1 : (ls i).kind = 1
  · exact .inr (.inl h1)
  rw [if_neg h1] at hf
  by_cases h2 : (ls i).kind = 2
  · exact .inr (.inr h2)
  rw [if_neg h2] at hf
  cases hf
theorem goes_label (ls : Nat → Ln) (n i : Nat) (hg : Good ls n) (hi : i < n) (h : (ls i).kind = 2) : (ls i).im = 0 := by
  have hfi := hg.fine i hi
  unfold fine at hfi
  rw [if_neg (by omega), if_neg (by omega), if_pos h, Bool.and_eq_true, Bool.and_eq_true, decide_eq_true_eq] at hfi
  exact hfi.1.2
end al
end Go.Proofs.Ytbcflhpaafpndaa
