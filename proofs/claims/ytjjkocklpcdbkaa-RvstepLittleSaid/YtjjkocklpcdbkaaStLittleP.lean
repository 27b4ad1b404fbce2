/- A step changes little: in plain numbers. -/
import Derived.Test.YtjjkocklpcdbkaaStRegs
namespace Go.Proofs.Ytjjkocklpcdbkaa
open Go.RowKit
set_option linter.unusedVariables false
set_option maxRecDepth 100000
namespace st
/-- one register at most, or eight bytes in a row at most -/
def Little (s t : S) : Prop := t.l.length = s.l.length ∧ ((t.l = s.l ∧ ∃ d : Nat, ∀ i, i ≠ d → t.r i = s.r i) ∨ (t.r = s.r ∧ ∃ a : Nat, ∀ j, (j < a ∨ a + 8 ≤ j) → t.l.getD j 0 = s.l.getD j 0))
theorem Little.same (s : S) : Little s s := ⟨rfl, .inl ⟨rfl, 0, fun _ _ => rfl⟩⟩
theorem Little.put (s : S) (n v a : Int) : Little s ((s.put n v).go a) := by
  refine ⟨?_, .inl ⟨?_, n.toNat, fun i hi => ?_⟩⟩
  · unfold S.put S.go; split <;> rfl
  · unfold S.put S.go; split <;> rfl
  · unfold S.put S.go
    split
    · dsimp only
      rw [if_neg (by omega)]
    · rfl
theorem Little.go (s : S) (a : Int) : Little s (s.go a) := ⟨rfl, .inl ⟨rfl, 0, fun _ _ => rfl⟩⟩
theorem lay_else (l : List Int) (a : Nat) (bs : List Int) (j : Nat) (h : a + bs.length ≤ l.length) (hj : j < a ∨ a + bs.length ≤ j) : (pl.lay l a bs).getD j 0 = l.getD j 0 := by
  unfold pl.lay
  simp only [List.getD_eq_getElem?_getD]
  rcases hj with hj | hj
  · rw [List.getElem?_append_left (by rw [List.length_take]; omega), List.getElem?_take_of_lt hj]
  · rw [List.getElem?_append_right (by rw [List.length_take]; omega), List.length_take, Nat.min_eq_left (by omega), List.getElem?_append_right (by omega), List.getElem?_drop]
    congr 2
    omega
theorem stL_else (l : List Int) (a n v : Int) : ∃ b : Nat, ∀ j, (j < b ∨ b + 8 ≤ j) → (pl.stL l a n v).getD j 0 = l.getD j 0 := by
  unfold pl.stL
  split
  · rename_i h
    rw [Bool.and_eq_true] at h
    obtain ⟨h1, h2⟩ := h
    have h3 : n = 1 ∨ n = 2 ∨ n = 4 ∨ n = 8 := of_decide_eq_true h1
    have h4 : 16 ≤ a ∧ 0 ≤ n ∧ a + n ≤ l.length := of_decide_eq_true h2
    refine ⟨a.toNat, fun j hj => lay_else _ _ _ _ ?_ ?_⟩
    · rw [wd.leB_length]; omega
    · rw [wd.leB_length]; omega
  · exact ⟨0, fun _ _ => rfl⟩
theorem exec_little (i : In) (s : S) : Little s (exec i s).2 ∧ ((exec i s).1 ≠ 0 → (exec i s).2 = s) := by
  unfold exec
  split
  · exact ⟨.put _ _ _ _, fun h => absurd rfl h⟩
  · split
    · exact ⟨.put _ _ _ _, fun h => absurd rfl h⟩
    · split
      · refine ⟨?_, fun h => absurd rfl h⟩
        show Little s (exBranch i s)
        unfold exBranch
        split
        · exact .go _ _
        · exact .go _ _
      · split
        · unfold exLoad
          split
          · exact ⟨.same s, fun _ => rfl⟩
          · exact ⟨.put _ _ _ _, fun h => absurd rfl h⟩
        · split
          · unfold exStore
            split
            · exact ⟨.same s, fun _ => rfl⟩
            · refine ⟨?_, fun h => absurd rfl h⟩
              exact ⟨pl.stL_length _ _ _ _, .inr ⟨rfl, stL_else _ _ _ _⟩⟩
          · split
            · exact ⟨.put _ _ _ _, fun h => absurd rfl h⟩
            · exact ⟨.same s, fun _ => rfl⟩
theorem step_little (code : Nat → Told) (n : Nat) (s : S) : Little s (step code n s).2 ∧ ((step code n s).1 ≠ 0 → (step code n s).2 = s) := by
  unfold step
  split
  · exact ⟨.same s, fun _ => rfl⟩
  · split
    · exact ⟨.same s, fun _ => rfl⟩
    · split
      · exact ⟨.same s, fun _ => rfl⟩
      · exact exec_little _ _
/-- how many of the first k differ -/
def cnt (r q : Nat → Int) : Nat → Nat
  | 0 => 0
  | k + 1 => if r k = q k then cnt r q k else cnt r q k + 1
theorem cnt_bd (r q : Nat → Int) : ∀ k, cnt r q k ≤ k
  | 0 => Nat.le_refl _
  | k + 1 => by
    have := cnt_bd r q k
    unfold cnt
    split <;> omega
theorem cnt_none (r q : Nat → Int) (h : ∀ i, q i = r i) : ∀ k, cnt r q k = 0
  | 0 => rfl
  | k + 1 => by
    unfold cnt
    rw [if_pos (h k).symm]
    exact cnt_none r q h k
theorem cnt_one (r q : Nat → Int) (d : Nat) (h : ∀ i, i ≠ d → q i = r i) : ∀ k, (k ≤ d → cnt r q k = 0) ∧ cnt r q k ≤ 1
  | 0 => ⟨fun _ => rfl, Nat.zero_le _⟩
  | k + 1 => by
    have ih := cnt_one r q d h k
    unfold cnt
    by_cases hk : k = d
    · subst hk
      have := ih.1 (Nat.le_refl _)
      refine ⟨fun h => by omega, ?_⟩
      split <;> omega
    · rw [if_pos (h k hk).symm]
      exact ⟨fun hh => ih.1 (by omega), ih.2⟩
/-- the first and the last of the first k that differ; -1: none -/
def flB (b c : Nat → Int) : Nat → Int × Int
  | 0 => (-1, -1)
  | k + 1 => if b k = c k then flB b c k else (if (flB b c k).1 < 0 then (k : Int) else (flB b c k).1, (k : Int))
theorem fl_none (b c : Nat → Int) (h : ∀ i, c i = b i) : ∀ k, flB b c k = (-1, -1)
  | 0 => rfl
  | k + 1 => by
    unfold flB
    rw [if_pos (h k).symm]
    exact fl_none b c h k
theorem fl_bd (b c : Nat → Int) : ∀ k : Nat, -1 ≤ (flB b c k).1 ∧ (flB b c k).1 ≤ (flB b c k).2 ∧ (flB b c k).2 < k ∨ k = 0 ∧ flB b c k = (-1, -1)
  | 0 => .inr ⟨rfl, rfl⟩
  | k + 1 => by
    have ih := fl_bd b c k
    left
    unfold flB
    by_cases h : b k = c k
    · rw [if_pos h]
      rcases ih with ih | ⟨h0, ih⟩
      · omega
      · rw [ih]; dsimp only; omega
    · rw [if_neg h]
      dsimp only
      rcases ih with ih | ⟨h0, ih⟩
      · split <;> omega
      · rw [ih]; dsimp only; split <;> omega
theorem fl_span (b c : Nat → Int) (A : Int) (h : ∀ j : Nat, ((j : Int) < A ∨ A + 8 ≤ j) → c j = b j) : ∀ k : Nat, flB b c k = (-1, -1) ∨ (A ≤ (flB b c k).1 ∧ 0 ≤ (flB b c k).1 ∧ (flB b c k).1 ≤ (flB b c k).2 ∧ (flB b c k).2 < A + 8 ∧ (flB b c k).2 < k)
  | 0 => .inl rfl
  | k + 1 => by
    have ih := fl_span b c A h k
    unfold flB
    by_cases hk : b k = c k
    · rw [if_pos hk]
      rcases ih with ih | ih
      · exact .inl ih
      · exact .inr (by omega)
    · rw [if_neg hk]
      dsimp only
      have hin : A ≤ (k : Int) ∧ (k : Int) < A + 8 := by
        by_cases h1 : A ≤ (k : Int)
        · by_cases h2 : (k : Int) < A + 8
          · exact ⟨h1, h2⟩
          · exact absurd (h k (.inr (by omega))).symm hk
        · exact absurd (h k (.inl (by omega))).symm hk
      right
      rcases ih with ih | ih
      · rw [ih]; dsimp only
        rw [if_pos (by decide)]
        omega
      · rw [if_neg (by omega)]
        omega
/-- the byte of memory that lies k behind the first -/
def byteAt (l : List Int) (k : Nat) : Int := l.getD (16 + k) 0
/-- what the row asks of a step -/
theorem little_law (code : Nat → Told) (n : Nat) (s t : S) (e : Int) (h : step code n s = (e, t)) :
    t.l.length = s.l.length ∧ (cnt s.r t.r 32 ≤ 1) ∧ ((flB (byteAt s.l) (byteAt t.l) 112).1 < 0 ∨ ((flB (byteAt s.l) (byteAt t.l) 112).2 - (flB (byteAt s.l) (byteAt t.l) 112).1 ≤ 7 ∧ cnt s.r t.r 32 = 0)) ∧ (e ≠ 0 → t = s ∧ cnt s.r t.r 32 = 0 ∧ (flB (byteAt s.l) (byteAt t.l) 112).1 < 0) := by
  have h0 := step_little code n s
  rw [h] at h0
  dsimp only at h0
  obtain ⟨⟨h1, h2⟩, h3⟩ := h0
  refine ⟨h1, ?_, ?_, fun he => ?_⟩
  · rcases h2 with ⟨h4, d, h5⟩ | ⟨h4, a, h5⟩
    · exact (cnt_one s.r t.r d h5 32).2
    · rw [cnt_none s.r t.r (fun i => by rw [h4])]; omega
  · rcases h2 with ⟨h4, d, h5⟩ | ⟨h4, a, h5⟩
    · left
      rw [fl_none _ _ (fun i => by rw [h4])]
      decide
    · rw [cnt_none s.r t.r (fun i => by rw [h4])]
      rcases fl_span (byteAt s.l) (byteAt t.l) ((a : Int) - 16) (fun j hj => h5 (16 + j) (by omega)) 112 with h6 | h6
      · left
        rw [h6]
        decide
      · right
        exact ⟨by omega, rfl⟩
  · obtain rfl := h3 he
    refine ⟨rfl, cnt_none _ _ (fun _ => rfl) _, ?_⟩
    rw [fl_none _ _ (fun _ => rfl)]
    decide
theorem setsS_l (s : S) (f : Nat → Int) : ∀ k, (setsS s f k).l = s.l
  | 0 => rfl
  | k + 1 => by
    show ((setsS s f k).set k (f k)).l = s.l
    unfold S.set S.put
    split
    · split
      · exact setsS_l s f k
      · exact setsS_l s f k
    · exact setsS_l s f k
theorem begS_len (x : kt.Start) : (begS x).l.length = 128 := by
  have e : (pl.layL (List.replicate 128 0) 16 x.bl).length = 128 := by rw [pl.layL_length]; rfl
  unfold begS
  split
  · show (setsS _ _ _).l.length = 128
    rw [setsS_l]
    exact e
  · rw [setsS_l]
    exact e
end st
end Go.Proofs.Ytjjkocklpcdbkaa
