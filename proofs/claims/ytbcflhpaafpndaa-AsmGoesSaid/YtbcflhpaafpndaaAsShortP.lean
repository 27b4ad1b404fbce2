/- Few lines: nobody is far; the first lines' words stay. In plain words. -/
import Derived.Test.YtbcflhpaafpndaaAsThree
namespace Go.Proofs.Ytbcflhpaafpndaa
open Go.RowKit
set_option linter.unusedVariables false
namespace al
open kt
def no : Nat → Bool := fun _ => false
theorem few_near (ls : Nat → Ln) (n : Nat) (hn : n ≤ 500) : ∀ k, farN ls n k = no
  | 0 => rfl
  | k + 1 => by
    show grow ls n (farN ls n k) = no
    rw [few_near ls n hn k]
    funext i
    unfold grow
    by_cases hi : i < n
    · have := dist_bd ls n no i (by omega)
      have ho : out (dist ls n no i) = false := by unfold out; exact decide_eq_false (by omega)
      rw [ho]
      simp [no]
    · rw [decide_eq_false hi]
      simp [no]
theorem farE_few (ls : Nat → Ln) (n : Nat) (hn : n ≤ 500) : farE ls n = no := few_near ls n hn n
/-- how many lines are no labels, of the first ones -/
theorem many_one (ls : Nat → Ln) (i : Nat) : place ls no (i + 1) = if (ls i).kind = 1 then place ls no i else place ls no i + 1 := by
  rw [place_succ]
  unfold size
  split
  · omega
  · simp [no]
/-- lines behind others leave these as they are -/
theorem check_first (ls : Nat → Ln) (n m : Nat) (h : check ls n = 0) (hm : m ≤ n) : check ls m = 0 ∨ check ls m = 6 := by
  have hn := check_small ls n h
  have h1 : e1 ls n = 0 := by
    apply Classical.byContradiction
    intro hc
    unfold check at h
    rw [if_neg (by omega), if_pos hc] at h
    exact hc h
  have h2 : e1 ls m = 0 := by
    apply Classical.byContradiction
    intro hc
    exact hc (e1_stop ls m hc n hm ▸ h1)
  have h3 : ∀ k, e2 ls m k = 0 ∨ e2 ls m k = 6 := by
    intro k
    induction k with
    | zero => exact .inl rfl
    | succ k ih =>
      unfold e2
      rcases ih with ih | ih
      · rw [ih]
        simp only [ne_eq, not_true_eq_false, if_false]
        split
        · exact .inr rfl
        · exact .inl rfl
      · rw [ih]
        exact .inr rfl
  unfold check
  rw [if_neg (by omega), if_neg (by rw [h2]; simp)]
  exact h3 m
theorem insOf_first (ls : Nat → Ln) (n m : Nat) (far : Nat → Bool) (hf : ∀ i, far i = true → (ls i).kind = 2) (h : Good ls n) (g : Good ls m) (hm : m ≤ n) (i : Nat) (hi : i < m) : insOf ls m far i = insOf ls n far i := by
  have hd : (ls i).kind = 2 → dist ls m far i = dist ls n far i := by
    intro hk
    obtain ⟨j, hj⟩ := g.goes i hi hk
    obtain ⟨j2, hj2⟩ := h.goes i (by omega) hk
    have e : j = j2 := hj2.2.2.2 j (by have := hj.1; omega) hj.2.1 hj.2.2.1
    subst e
    unfold dist
    rw [lab_at ls far _ j m hj, lab_at ls far _ j n hj2]
  unfold insOf
  split
  · rfl
  · split
    · rename_i hfa
      rw [hd (hf i hfa)]
    · split
      · rename_i hk
        rw [hd hk]
      · rfl
theorem inss_first (ls : Nat → Ln) (n m : Nat) (far : Nat → Bool) (hf : ∀ i, far i = true → (ls i).kind = 2) (h : Good ls n) (g : Good ls m) (hm : m ≤ n) : ∀ i, i ≤ m → inss ls m far i = inss ls n far i
  | 0, _ => rfl
  | i + 1, hi => by
    show inss ls m far i ++ insOf ls m far i = inss ls n far i ++ insOf ls n far i
    rw [inss_first ls n m far hf h g hm i (by omega), insOf_first ls n m far hf h g hm i (by omega)]
theorem inss_prefix (ls : Nat → Ln) (n : Nat) (far : Nat → Bool) (m : Nat) : ∀ k, ∃ t, inss ls n far (m + k) = inss ls n far m ++ t
  | 0 => ⟨[], by simp⟩
  | k + 1 => by
    obtain ⟨t, ht⟩ := inss_prefix ls n far m k
    refine ⟨t ++ insOf ls n far (m + k), ?_⟩
    show inss ls n far (m + k) ++ insOf ls n far (m + k) = _
    rw [ht, List.append_assoc]
/-- the words of the first lines are the first words -/
theorem words_first (ls : Nat → Ln) (n m : Nat) (h : check ls n = 0) (g : check ls m = 0) (hm : m ≤ n) (hn : n ≤ 500) :
    ∃ t, inss ls n (farE ls n) n = inss ls m (farE ls m) m ++ t := by
  rw [farE_few ls n hn, farE_few ls m (by omega)]
  obtain ⟨t, ht⟩ := inss_prefix ls n no m (n - m)
  refine ⟨t, ?_⟩
  rw [inss_first ls n m no (fun i hi => by cases hi) (good_of ls n h) (good_of ls m g) hm m (Nat.le_refl _), ← ht]
  congr 1
  omega
end al
end Go.Proofs.Ytbcflhpaafpndaa
