/- The instructions of lines, in plain words. -/
import Derived.Test.YtbcflhpaafpndaaAsPlaces
import Derived.Test.YtbcflhpaafpndaaRvPlain
namespace Go.Proofs.Ytbcflhpaafpndaa
open Go.RowKit
set_option linter.unusedVariables false
/-- an instruction -/
structure kt.In5 where
  op : Int
  rd : Int
  rs1 : Int
  rs2 : Int
  im : Int
def kt.In5.cells (x : kt.In5) : List Value := [.int .i64 x.op, .int .i64 x.rd, .int .i64 x.rs1, .int .i64 x.rs2, .int .i64 x.im]
namespace al
open kt
def chk5 (x : In5) : Int := rv.chkI x.op x.rd x.rs1 x.rs2 x.im
def enc5 (x : In5) : Int := rv.encI x.op x.rd x.rs1 x.rs2 x.im
def self (x : Ln) : In5 := ⟨x.op, x.rd, x.rs1, x.rs2, x.im⟩
/-- a line's instructions -/
def insOf (ls : Nat → Ln) (n : Nat) (far : Nat → Bool) (i : Nat) : List In5 :=
  if (ls i).kind = 1 then []
  else if far i then [⟨inv (ls i).op, (ls i).rd, (ls i).rs1, (ls i).rs2, 8⟩, ⟨3, 0, 0, 0, dist ls n far i - 4⟩]
  else if (ls i).kind = 2 then [⟨(ls i).op, (ls i).rd, (ls i).rs1, (ls i).rs2, dist ls n far i⟩]
  else [self (ls i)]
def inss (ls : Nat → Ln) (n : Nat) (far : Nat → Bool) : Nat → List In5
  | 0 => []
  | i + 1 => inss ls n far i ++ insOf ls n far i
def flat (l : List In5) : List Value := l.flatMap In5.cells
def wordsV (l : List In5) : List Value := l.map fun x => .int .u32 (enc5 x)
theorem flat_app (a b : List In5) : flat (a ++ b) = flat a ++ flat b := List.flatMap_append ..
theorem flat_len : ∀ l : List In5, (flat l).length = l.length * 5
  | [] => rfl
  | x :: l => by
    show (x.cells ++ flat l).length = (l.length + 1) * 5
    rw [List.length_append, flat_len l]
    show 5 + _ = _
    omega
theorem flat_at : ∀ (l : List In5) (j : Nat) (x : In5), l[j]? = some x → ∀ i, i < 5 → (flat l)[j * 5 + i]? = x.cells[i]?
  | [], j, x, h, i, hi => by simp at h
  | y :: l, 0, x, h, i, hi => by
    simp at h
    subst h
    show (y.cells ++ flat l)[0 * 5 + i]? = _
    rw [List.getElem?_append_left (by show _ < 5; omega)]
    congr 1
    omega
  | y :: l, j + 1, x, h, i, hi => by
    have := flat_at l j x (by simpa using h) i hi
    show (y.cells ++ flat l)[(j + 1) * 5 + i]? = _
    rw [List.getElem?_append_right (by show 5 ≤ _; omega), show (j + 1) * 5 + i - y.cells.length = j * 5 + i by show (j + 1) * 5 + i - 5 = _; omega, this]
theorem insOf_len (ls : Nat → Ln) (n : Nat) (far : Nat → Bool) (i : Nat) : ((insOf ls n far i).length : Int) = size ls far i := by
  unfold insOf size
  split
  · rfl
  · split
    · rfl
    · split <;> rfl
theorem inss_len (ls : Nat → Ln) (n : Nat) (far : Nat → Bool) : ∀ i, ((inss ls n far i).length : Int) = place ls far i
  | 0 => rfl
  | i + 1 => by
    show ((inss ls n far i ++ insOf ls n far i).length : Int) = _
    rw [List.length_append, Int.natCast_add, inss_len ls n far i, insOf_len, place_succ]
theorem inss_two (ls : Nat → Ln) (n : Nat) (far : Nat → Bool) (i : Nat) : (inss ls n far i).length ≤ 2 * i := by
  have h1 := inss_len ls n far i
  have h2 := place_bd ls far i
  omega
theorem chkB (op rd rs1 rs2 im : Int) (h : isB op = true) : rv.chkI op rd rs1 rs2 im = 0 ↔ (rd = 0 ∧ (0 ≤ rs1 ∧ rs1 ≤ 31) ∧ (0 ≤ rs2 ∧ rs2 ≤ 31) ∧ (-4096 ≤ im ∧ im ≤ 4094) ∧ im.tmod 2 = 0) := by
  have hop := of_decide_eq_true h
  obtain ⟨k, rfl⟩ : ∃ k : Nat, op = k := ⟨op.toNat, by omega⟩
  rw [rv.chkI_nat k (by omega) (by omega)]
  have hs : rv.sh k = rv.shB := by
    have : k = 5 ∨ k = 6 ∨ k = 7 ∨ k = 8 ∨ k = 9 ∨ k = 10 := by omega
    rcases this with rfl | rfl | rfl | rfl | rfl | rfl <;> rfl
  rw [hs]
  unfold rv.chkS rv.shB rv.zV
  simp [rv.fs1, rv.fs2]
  constructor
  · intro h
    omega
  · intro h
    omega
theorem chkJ (rd rs1 rs2 im : Int) : rv.chkI 3 rd rs1 rs2 im = 0 ↔ (rs1 = 0 ∧ rs2 = 0 ∧ (0 ≤ rd ∧ rd ≤ 31) ∧ (-1048576 ≤ im ∧ im ≤ 1048574) ∧ im.tmod 2 = 0) := by
  have h3 := rv.chkI_nat 3 (by omega) (by omega) rd rs1 rs2 im
  refine h3.trans ?_
  have hs : rv.sh 3 = rv.shJ := rfl
  rw [hs]
  unfold rv.chkS rv.shJ rv.zV
  simp [rv.fd]
  constructor
  · intro h
    omega
  · intro h
    omega
theorem isB_inv (op : Int) (h : isB op = true) : isB (inv op) = true ∧ inv (inv op) = op ∧ inv op ≠ op := by
  have hop := of_decide_eq_true h
  have : op = 5 ∨ op = 6 ∨ op = 7 ∨ op = 8 ∨ op = 9 ∨ op = 10 := by omega
  rcases this with rfl | rfl | rfl | rfl | rfl | rfl <;> decide
theorem e1_fine (ls : Nat → Ln) : ∀ n, e1 ls n = 0 → ∀ i, i < n → fine (ls i) = true ∧ ((ls i).kind = 1 → has ls i (ls i).label = false)
  | 0, h, i, hi => by omega
  | n + 1, h, i, hi => by
    have h0 : e1 ls n = 0 := by
      apply Classical.byContradiction
      intro hc
      have := e1_stop ls n hc (n + 1) (by omega)
      exact hc (this ▸ h)
    by_cases e : i = n
    · subst e
      unfold e1 at h
      rw [if_neg (by rw [h0]; simp)] at h
      cases hf : fine (ls i)
      · rw [if_pos hf] at h; cases h
      · rw [if_neg (by rw [hf]; simp)] at h
        refine ⟨rfl, fun hk => ?_⟩
        cases hh : has ls i (ls i).label
        · rfl
        · rw [if_pos ⟨hk, hh⟩] at h; cases h
    · exact e1_fine ls n h0 i (by omega)
theorem e2_has (ls : Nat → Ln) (m : Nat) : ∀ n, e2 ls m n = 0 → ∀ i, i < n → (ls i).kind = 2 → has ls m (ls i).label = true
  | 0, h, i, hi, _ => by omega
  | n + 1, h, i, hi, hk => by
    have h0 : e2 ls m n = 0 := by
      apply Classical.byContradiction
      intro hc
      have := e2_stop ls m n hc (n + 1) (by omega)
      exact hc (this ▸ h)
    by_cases e : i = n
    · subst e
      unfold e2 at h
      rw [if_neg (by rw [h0]; simp)] at h
      cases hh : has ls m (ls i).label
      · rw [if_pos ⟨hk, hh⟩] at h; cases h
      · rfl
    · exact e2_has ls m n h0 i (by omega) hk
theorem has_iff (ls : Nat → Ln) (x : Int) : ∀ n, has ls n x = true ↔ ∃ j, j < n ∧ (ls j).kind = 1 ∧ (ls j).label = x
  | 0 => by
    constructor
    · intro h; cases h
    · rintro ⟨j, hj, _⟩; omega
  | n + 1 => by
    rw [has_one, Bool.or_eq_true, has_iff ls x n, Bool.and_eq_true, decide_eq_true_eq, decide_eq_true_eq]
    constructor
    · rintro (⟨j, hj, h⟩ | h)
      · exact ⟨j, by omega, h⟩
      · exact ⟨n, by omega, h⟩
    · rintro ⟨j, hj, h⟩
      by_cases e : j = n
      · subst e; exact .inr h
      · exact .inl ⟨j, by omega, h⟩
/-- what lines that may be are -/
structure Good (ls : Nat → Ln) (n : Nat) : Prop where
  small : n ≤ 4000
  fine : ∀ i, i < n → fine (ls i) = true
  one : ∀ i j, i < j → j < n → (ls i).kind = 1 → (ls j).kind = 1 → (ls i).label ≠ (ls j).label
  goes : ∀ i, i < n → (ls i).kind = 2 → ∃ j, labelAt ls n (ls i).label j
theorem good_of (ls : Nat → Ln) (n : Nat) (h : check ls n = 0) : Good ls n := by
  have hn := check_small ls n h
  unfold check at h
  rw [if_neg (by omega)] at h
  by_cases h1 : e1 ls n = 0
  · rw [if_neg (by rw [h1]; simp)] at h
    have hf := e1_fine ls n h1
    have one : ∀ i j, i < j → j < n → (ls i).kind = 1 → (ls j).kind = 1 → (ls i).label ≠ (ls j).label := by
      intro i j hij hj ki kj e
      have := (hf j hj).2 kj
      rw [(has_iff ls _ j).2 ⟨i, hij, ki, e⟩] at this
      cases this
    refine ⟨hn, fun i hi => (hf i hi).1, one, fun i hi hk => ?_⟩
    obtain ⟨j, hj, kj, lj⟩ := (has_iff ls _ n).1 (e2_has ls n n h i hi hk)
    refine ⟨j, hj, kj, lj, fun i2 hi2 k2 l2 => ?_⟩
    rcases Nat.lt_trichotomy i2 j with hlt | heq | hgt
    · exact absurd (l2.trans lj.symm) (one i2 j hlt hj k2 kj)
    · exact heq
    · exact absurd (lj.trans l2.symm) (one j i2 hgt hi2 kj k2)
  · rw [if_pos h1] at h
    exact absurd h h1
theorem four_two (d : Int) : (4 * d).tmod 2 = 0 := by
  have : 4 * d = 2 * (2 * d) := by omega
  rw [this]
  exact Int.mul_tmod_right _ _
theorem farN_grows (ls : Nat → Ln) (n : Nat) : ∀ k, grow ls n (farN ls n k) = farN ls n k ∨ k + 1 ≤ count (farN ls n (k + 1)) n := by
  intro k
  by_cases hfix : grow ls n (farN ls n k) = farN ls n k
  · exact .inl hfix
  refine .inr ?_
  have hk : k ≤ count (farN ls n k) n := by
    cases k with
    | zero => exact Nat.zero_le _
    | succ k =>
      rcases farN_grows ls n k with h | h
      · refine absurd ?_ hfix
        show grow ls n (grow ls n (farN ls n k)) = grow ls n (farN ls n k)
        rw [h, h]
      · exact h
  have hi : ∃ i, grow ls n (farN ls n k) i ≠ farN ls n k i := by
    apply Classical.byContradiction
    intro hno
    refine hfix (funext fun i => ?_)
    apply Classical.byContradiction
    intro hc
    exact hno ⟨i, hc⟩
  obtain ⟨i, hi⟩ := hi
  have hin : i < n := by
    apply Classical.byContradiction
    intro hc
    exact hi (grow_out ls n _ i (by omega))
  have hf : farN ls n k i = false := by
    cases hf : farN ls n k i
    · rfl
    · exact absurd ((grow_mono ls n _ i hf).trans hf.symm) hi
  have hg : grow ls n (farN ls n k) i = true := by
    cases hg : grow ls n (farN ls n k) i
    · exact absurd (hg.trans hf.symm) hi
    · rfl
  have := count_lt (farN ls n k) (farN ls n (k + 1)) (fun i h => grow_mono ls n _ i h) n i hin hf hg
  omega
theorem farE_grow (ls : Nat → Ln) (n : Nat) : grow ls n (farE ls n) = farE ls n := by
  rcases farN_grows ls n n with h | h
  · exact h
  · have := count_le (farN ls n (n + 1)) n
    omega
/-- a branch that is not far in the end reaches -/
theorem farE_fix (ls : Nat → Ln) (n : Nat) (i : Nat) (hi : i < n) (hc : cand ls i = true) (h : farE ls n i = false) : out (dist ls n (farE ls n) i) = false := by
  have hg := congrFun (farE_grow ls n) i
  unfold grow at hg
  rw [h, hc, decide_eq_true hi] at hg
  simpa using hg
theorem farE_lt (ls : Nat → Ln) (n i : Nat) (h : farE ls n i = true) : i < n ∧ cand ls i = true := farN_lt ls n n i h
/-- all instructions of lines that may be may be -/
theorem insOf_ok (ls : Nat → Ln) (n : Nat) (h : Good ls n) (i : Nat) (hi : i < n) : ∀ x ∈ insOf ls n (farE ls n) i, chk5 x = 0 := by
  intro x hx
  have hf := h.fine i hi
  have hd := dist_bd ls n (farE ls n) i (by omega)
  have hn := h.small
  unfold insOf at hx
  by_cases h1 : (ls i).kind = 1
  · rw [if_pos h1] at hx
    cases hx
  rw [if_neg h1] at hx
  unfold fine at hf
  by_cases h0 : (ls i).kind = 0
  · rw [if_pos h0, Bool.and_eq_true, decide_eq_true_eq, decide_eq_true_eq] at hf
    have hnf : ¬ farE ls n i = true := by
      intro hfa
      have := (farE_lt ls n i hfa).2
      unfold cand at this
      rw [Bool.and_eq_true, decide_eq_true_eq] at this
      omega
    rw [if_neg hnf, if_neg (by omega)] at hx
    simp at hx
    subst hx
    exact hf.2
  rw [if_neg h0, if_neg h1] at hf
  by_cases h2 : (ls i).kind = 2
  · rw [if_pos h2, Bool.and_eq_true, Bool.and_eq_true, Bool.and_eq_true, decide_eq_true_eq, decide_eq_true_eq] at hf
    obtain ⟨⟨⟨f1, f2⟩, f3⟩, f4⟩ := hf
    unfold chk at f4
    by_cases hb : isB (ls i).op = true
    · have hc : cand ls i = true := by unfold cand; rw [hb, decide_eq_true h2]; rfl
      have f5 := (chkB _ _ _ _ _ hb).1 f4
      cases hfa : farE ls n i
      · rw [hfa, if_neg (by simp), if_pos h2] at hx
        simp at hx
        subst hx
        have ho := farE_fix ls n i hi hc hfa
        unfold out at ho
        rw [decide_eq_false_iff_not] at ho
        have hm : (dist ls n (farE ls n) i).tmod 2 = 0 := four_two _
        unfold chk5
        dsimp only
        exact (chkB _ _ _ _ _ hb).2 ⟨f5.1, f5.2.1, f5.2.2.1, by omega, hm⟩
      · rw [hfa, if_pos rfl] at hx
        simp at hx
        rcases hx with rfl | rfl
        · unfold chk5
          dsimp only
          exact (chkB _ _ _ _ _ (isB_inv _ hb).1).2 ⟨f5.1, f5.2.1, f5.2.2.1, by omega, by decide⟩
        · have hm : (dist ls n (farE ls n) i - 4).tmod 2 = 0 := by
            have : dist ls n (farE ls n) i - 4 = 4 * (lab ls (farE ls n) n (ls i).label - place ls (farE ls n) i - 1) := by unfold dist; omega
            rw [this]
            exact four_two _
          unfold chk5
          dsimp only
          exact (chkJ _ _ _ _).2 ⟨rfl, rfl, by omega, by omega, hm⟩
    · have h3 : (ls i).op = 3 := by
        unfold goesOp at f2
        rw [Bool.or_eq_true, decide_eq_true_eq] at f2
        rcases f2 with f2 | f2
        · exact absurd f2 hb
        · exact f2
      rw [h3] at f4
      have f5 := (chkJ _ _ _ _).1 f4
      have hnf : ¬ farE ls n i = true := by
        intro hfa
        have := (farE_lt ls n i hfa).2
        unfold cand at this
        rw [Bool.and_eq_true] at this
        exact hb this.2
      rw [if_neg hnf, if_pos h2] at hx
      simp at hx
      subst hx
      have hm : (dist ls n (farE ls n) i).tmod 2 = 0 := four_two _
      unfold chk5
      dsimp only
      rw [h3]
      exact (chkJ _ _ _ _).2 ⟨f5.1, f5.2.1, f5.2.2.1, by omega, hm⟩
  · rw [if_neg h2] at hf
    cases hf
theorem inss_ok (ls : Nat → Ln) (n : Nat) (h : Good ls n) : ∀ i, i ≤ n → ∀ x ∈ inss ls n (farE ls n) i, chk5 x = 0
  | 0, hi, x, hx => by cases hx
  | i + 1, hi, x, hx => by
    rcases List.mem_append.1 hx with hx | hx
    · exact inss_ok ls n h i (by omega) x hx
    · exact insOf_ok ls n h i (by omega) x hx
end al
end Go.Proofs.Ytbcflhpaafpndaa
