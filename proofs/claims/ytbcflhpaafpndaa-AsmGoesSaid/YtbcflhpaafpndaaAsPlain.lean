/- Lines and their places, in plain words. -/
import Derived.Test.YtbcflhpaafpndaaBits
namespace Go.Proofs.Ytbcflhpaafpndaa
open Go.RowKit
set_option linter.unusedVariables false
/-- a line -/
structure kt.Ln where
  kind : Int
  label : Int
  op : Int
  rd : Int
  rs1 : Int
  rs2 : Int
  im : Int
namespace al
open kt
/-- how many words a line has -/
def size (ls : Nat → Ln) (far : Nat → Bool) (i : Nat) : Int := if (ls i).kind = 1 then 0 else if far i then 2 else 1
/-- where a line stands -/
def place (ls : Nat → Ln) (far : Nat → Bool) : Nat → Int
  | 0 => 0
  | i + 1 => place ls far i + size ls far i
/-- where labels stand, of the first lines -/
def lab (ls : Nat → Ln) (far : Nat → Bool) : Nat → Int → Int
  | 0, _ => 0
  | i + 1, x => if (ls i).kind = 1 ∧ (ls i).label = x then place ls far i else lab ls far i x
/-- how many bytes a line goes -/
def dist (ls : Nat → Ln) (n : Nat) (far : Nat → Bool) (i : Nat) : Int := 4 * (lab ls far n (ls i).label - place ls far i)
def isB (op : Int) : Bool := decide (5 ≤ op ∧ op ≤ 10)
/-- may a line be far -/
def cand (ls : Nat → Ln) (i : Nat) : Bool := decide ((ls i).kind = 2) && isB (ls i).op
def out (d : Int) : Bool := decide (d < -4096 ∨ 4094 < d)
/-- who is far, one round later -/
def grow (ls : Nat → Ln) (n : Nat) (far : Nat → Bool) (i : Nat) : Bool := far i || (decide (i < n) && cand ls i && out (dist ls n far i))
def farN (ls : Nat → Ln) (n : Nat) : Nat → Nat → Bool
  | 0 => fun _ => false
  | k + 1 => grow ls n (farN ls n k)
/-- who is far in the end -/
def farE (ls : Nat → Ln) (n : Nat) : Nat → Bool := farN ls n n
/-- how many are far, of the first lines -/
def count (far : Nat → Bool) : Nat → Nat
  | 0 => 0
  | i + 1 => count far i + if far i then 1 else 0
theorem count_le (far : Nat → Bool) : ∀ n, count far n ≤ n
  | 0 => Nat.le_refl _
  | n + 1 => by have := count_le far n; unfold count; split <;> omega
theorem count_mono (f g : Nat → Bool) (h : ∀ i, f i = true → g i = true) : ∀ n, count f n ≤ count g n
  | 0 => Nat.le_refl _
  | n + 1 => by
    have := count_mono f g h n
    unfold count
    cases hf : f n
    · simp; omega
    · rw [h n hf]; simp; omega
theorem count_lt (f g : Nat → Bool) (h : ∀ i, f i = true → g i = true) : ∀ n i, i < n → f i = false → g i = true → count f n < count g n
  | 0, i, hi, _, _ => by omega
  | n + 1, i, hi, hf, hg => by
    unfold count
    by_cases e : i = n
    · subst e
      have := count_mono f g h i
      rw [hf, hg]
      simp; omega
    · have := count_lt f g h n i (by omega) hf hg
      cases hfn : f n
      · simp; omega
      · rw [h n hfn]; simp; omega
theorem grow_mono (ls : Nat → Ln) (n : Nat) (far : Nat → Bool) (i : Nat) (h : far i = true) : grow ls n far i = true := by unfold grow; rw [h]; rfl
theorem grow_out (ls : Nat → Ln) (n : Nat) (far : Nat → Bool) (i : Nat) (hi : n ≤ i) : grow ls n far i = far i := by unfold grow; rw [decide_eq_false (by omega)]; simp
/-- where nothing has turned, nothing turns any more -/
theorem farN_fix (ls : Nat → Ln) (n k : Nat) (h : grow ls n (farN ls n k) = farN ls n k) : ∀ m, k ≤ m → farN ls n m = farN ls n k
  | 0, hm => by
    have : k = 0 := by omega
    rw [this]
  | m + 1, hm => by
    by_cases e : k = m + 1
    · rw [e]
    · show grow ls n (farN ls n m) = _
      rw [farN_fix ls n k h m (by omega), h]
theorem farE_of (ls : Nat → Ln) (n k : Nat) (hk : k ≤ n) (h : grow ls n (farN ls n k) = farN ls n k) : farN ls n k = farE ls n := (farN_fix ls n k h n hk).symm
theorem farN_lt (ls : Nat → Ln) (n : Nat) : ∀ k i, farN ls n k i = true → i < n ∧ cand ls i = true
  | 0, i, h => by cases h
  | k + 1, i, h => by
    unfold farN grow at h
    simp only [Bool.or_eq_true, Bool.and_eq_true, decide_eq_true_eq] at h
    rcases h with h | ⟨⟨h1, h2⟩, h3⟩
    · exact farN_lt ls n k i h
    · exact ⟨h1, h2⟩
theorem place_succ (ls : Nat → Ln) (far : Nat → Bool) (j : Nat) : place ls far (j + 1) = place ls far j + size ls far j := rfl
theorem size_bd (ls : Nat → Ln) (far : Nat → Bool) (i : Nat) : 0 ≤ size ls far i ∧ size ls far i ≤ 2 := by unfold size; split <;> (try split) <;> omega
theorem place_bd (ls : Nat → Ln) (far : Nat → Bool) : ∀ i : Nat, 0 ≤ place ls far i ∧ place ls far i ≤ 2 * i
  | 0 => ⟨Int.le_refl _, by unfold place; omega⟩
  | i + 1 => by
    have := place_bd ls far i
    have := size_bd ls far i
    unfold place
    omega
theorem place_mono (ls : Nat → Ln) (far : Nat → Bool) (i : Nat) : ∀ j, i ≤ j → place ls far i ≤ place ls far j
  | 0, h => by
    have : i = 0 := by omega
    rw [this]; exact Int.le_refl _
  | j + 1, h => by
    by_cases e : i = j + 1
    · rw [e]; exact Int.le_refl _
    · have := place_mono ls far i j (by omega)
      have := size_bd ls far j
      rw [place_succ]
      omega
/-- with more that are far, ways are no shorter -/
theorem place_far (ls : Nat → Ln) (f g : Nat → Bool) (h : ∀ i, f i = true → g i = true) (i : Nat) : ∀ j, i ≤ j → place ls f j - place ls f i ≤ place ls g j - place ls g i
  | 0, hj => by
    have : i = 0 := by omega
    rw [this]; omega
  | j + 1, hj => by
    by_cases e : i = j + 1
    · rw [e]; omega
    · have h1 := place_far ls f g h i j (by omega)
      have h2 : size ls f j ≤ size ls g j := by
        unfold size
        split
        · omega
        · cases hf : f j
          · simp; split <;> omega
          · rw [h j hf]; simp
      rw [place_succ, place_succ]
      omega
/-- the label's line -/
def labelAt (ls : Nat → Ln) (n : Nat) (x : Int) (j : Nat) : Prop := j < n ∧ (ls j).kind = 1 ∧ (ls j).label = x ∧ ∀ i, i < n → (ls i).kind = 1 → (ls i).label = x → i = j
theorem lab_at (ls : Nat → Ln) (far : Nat → Bool) (x : Int) (j : Nat) : ∀ n, labelAt ls n x j → lab ls far n x = place ls far j
  | 0, h => by have := h.1; omega
  | n + 1, h => by
    unfold lab
    by_cases e : (ls n).kind = 1 ∧ (ls n).label = x
    · rw [if_pos e]
      rw [h.2.2.2 n (by omega) e.1 e.2]
    · rw [if_neg e]
      have hj : j ≠ n := fun hh => e (by rw [← hh]; exact ⟨h.2.1, h.2.2.1⟩)
      exact lab_at ls far x j n ⟨by have := h.1; omega, h.2.1, h.2.2.1, fun i hi a b => h.2.2.2 i (by omega) a b⟩
theorem lab_bd (ls : Nat → Ln) (far : Nat → Bool) (x : Int) : ∀ n : Nat, 0 ≤ lab ls far n x ∧ lab ls far n x ≤ 2 * n
  | 0 => ⟨Int.le_refl _, by unfold lab; omega⟩
  | n + 1 => by
    have h1 := lab_bd ls far x n
    have h2 := place_bd ls far n
    unfold lab
    split <;> omega
theorem dist_bd (ls : Nat → Ln) (n : Nat) (far : Nat → Bool) (i : Nat) (hi : i ≤ n) : -(8 * (n : Int)) ≤ dist ls n far i ∧ dist ls n far i ≤ 8 * n := by
  have h1 := lab_bd ls far (ls i).label n
  have h2 := place_bd ls far i
  unfold dist
  omega
/-- who is far is too far, in the end too -/
theorem far_out (ls : Nat → Ln) (n : Nat) (hl : ∀ i, i < n → cand ls i = true → ∃ j, labelAt ls n (ls i).label j) : ∀ k i, farN ls n k i = true → ∀ m, k ≤ m → out (dist ls n (farN ls n m) i) = true := by
  have mono : ∀ a b, a ≤ b → ∀ i, farN ls n a i = true → farN ls n b i = true := by
    intro a b hab
    induction b with
    | zero => intro i h; rwa [show a = 0 by omega] at h
    | succ b ih =>
      intro i h
      by_cases e : a = b + 1
      · rwa [e] at h
      · exact grow_mono ls n _ i (ih (by omega) i h)
  intro k
  induction k with
  | zero => intro i h; cases h
  | succ k ih =>
    intro i h m hm
    by_cases hk : farN ls n k i = true
    · exact ih i hk m (by omega)
    · have hc := farN_lt ls n (k + 1) i h
      unfold farN grow at h
      simp only [Bool.or_eq_true, Bool.and_eq_true, decide_eq_true_eq] at h
      rcases h with h | ⟨⟨h1, h2⟩, h3⟩
      · exact absurd h hk
      · obtain ⟨j, hj⟩ := hl i h1 h2
        have hmm := mono k m (by omega)
        unfold out dist at h3 ⊢
        rw [lab_at ls _ _ j n hj] at h3 ⊢
        simp only [decide_eq_true_eq] at h3 ⊢
        by_cases hij : i ≤ j
        · have a := place_far ls _ _ hmm i j hij
          have b := place_mono ls (farN ls n k) i j hij
          omega
        · have a := place_far ls _ _ hmm j i (by omega)
          have b := place_mono ls (farN ls n k) j i (by omega)
          omega
end al
end Go.Proofs.Ytbcflhpaafpndaa
