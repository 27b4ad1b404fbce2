/- A branch, nothing so many times, and its label: in plain words. -/
import Derived.Test.YtbcflhpaafpndaaAsApart
namespace Go.Proofs.Ytbcflhpaafpndaa
open Go.RowKit
set_option linter.unusedVariables false
namespace al
open kt
theorem e1_zero (ls : Nat → Ln) : ∀ n, (∀ i, i < n → fine (ls i) = true) → (∀ i, i < n → (ls i).kind = 1 → has ls i (ls i).label = false) → e1 ls n = 0
  | 0, _, _ => rfl
  | n + 1, hf, h1 => by
    have h0 := e1_zero ls n (fun i hi => hf i (by omega)) (fun i hi => h1 i (by omega))
    unfold e1
    rw [h0, if_neg (by simp), if_neg (by rw [hf n (by omega)]; simp), if_neg]
    rintro ⟨hk, hh⟩
    rw [h1 n (by omega) hk] at hh
    cases hh
theorem e2_zero (ls : Nat → Ln) (m : Nat) : ∀ n, (∀ i, i < n → (ls i).kind = 2 → has ls m (ls i).label = true) → e2 ls m n = 0
  | 0, _ => rfl
  | n + 1, h => by
    have h0 := e2_zero ls m n (fun i hi => h i (by omega))
    unfold e2
    rw [h0, if_neg (by simp), if_neg]
    rintro ⟨hk, hh⟩
    rw [h n (by omega) hk] at hh
    cases hh
theorem check_zero (ls : Nat → Ln) (n : Nat) (hn : n ≤ 4000) (h1 : e1 ls n = 0) (h2 : e2 ls n n = 0) : check ls n = 0 := by
  unfold check
  rw [if_neg (by omega), if_neg (by rw [h1]; simp), h2]
def ap (n : Nat) : Nat → Ln := nth (apartL n)
theorem ap_len (n : Nat) : (apartL n).length = n + 2 := by unfold apartL; simp
theorem ap_0 (n : Nat) : ap n 0 = branchL := rfl
theorem ap_mid (n i : Nat) (h0 : 0 < i) (h1 : i ≤ n) : ap n i = nothingL := by
  obtain ⟨j, rfl⟩ : ∃ j, i = j + 1 := ⟨i - 1, by omega⟩
  unfold ap nth apartL
  rw [List.getD_eq_getElem?_getD, List.getElem?_append_left (by simp; omega)]
  simp [show j < n by omega]
theorem ap_last (n : Nat) : ap n (n + 1) = labelL 1 := by
  unfold ap nth apartL
  rw [List.getD_eq_getElem?_getD, List.getElem?_append_right (by simp)]
  simp
theorem ap_cases (n i : Nat) (h : i < n + 2) : (i = 0 ∧ ap n i = branchL) ∨ (0 < i ∧ i ≤ n ∧ ap n i = nothingL) ∨ (i = n + 1 ∧ ap n i = labelL 1) := by
  by_cases h0 : i = 0
  · subst h0; exact .inl ⟨rfl, rfl⟩
  · by_cases h1 : i ≤ n
    · exact .inr (.inl ⟨by omega, h1, ap_mid n i (by omega) h1⟩)
    · obtain rfl : i = n + 1 := by omega
      exact .inr (.inr ⟨rfl, ap_last n⟩)
theorem ap_has (n : Nat) (x : Int) : ∀ k, k ≤ n + 1 → has (ap n) k x = false
  | 0, _ => rfl
  | k + 1, hk => by
    rw [has_one, ap_has n x k (by omega)]
    rcases ap_cases n k (by omega) with ⟨_, e⟩ | ⟨_, _, e⟩ | ⟨e, _⟩
    · rw [e]; rfl
    · rw [e]; rfl
    · omega
theorem ap_check (n : Nat) (hn : n ≤ 2000) : check (ap n) (n + 2) = 0 := by
  refine check_zero _ _ (by omega) (e1_zero _ _ ?_ ?_) (e2_zero _ _ _ ?_)
  · intro i hi
    rcases ap_cases n i hi with ⟨_, e⟩ | ⟨_, _, e⟩ | ⟨_, e⟩ <;> rw [e] <;> decide +kernel
  · intro i hi hk
    rcases ap_cases n i hi with ⟨_, e⟩ | ⟨_, _, e⟩ | ⟨e, _⟩
    · rw [e] at hk; cases hk
    · rw [e] at hk; cases hk
    · subst e; exact ap_has n _ _ (Nat.le_refl _)
  · intro i hi hk
    rcases ap_cases n i hi with ⟨_, e⟩ | ⟨_, _, e⟩ | ⟨_, e⟩
    · rw [e]
      show has (ap n) (n + 1 + 1) 1 = true
      rw [has_one, ap_last]
      simp [labelL]
    · rw [e] at hk; cases hk
    · rw [e] at hk; cases hk
/-- who may be far: the branch alone -/
def onlyB (n : Nat) (far : Nat → Bool) : Prop := ∀ i, far i = true → i = 0
theorem ap_far (n k : Nat) : onlyB n (farN (ap n) (n + 2) k) := by
  intro i h
  obtain ⟨h1, h2⟩ := farN_lt _ _ _ _ h
  rcases ap_cases n i h1 with ⟨e, _⟩ | ⟨_, _, e⟩ | ⟨_, e⟩
  · exact e
  · rw [show cand (ap n) i = false by unfold cand; rw [e]; rfl] at h2; cases h2
  · rw [show cand (ap n) i = false by unfold cand; rw [e]; rfl] at h2; cases h2
def first (far : Nat → Bool) : Int := if far 0 then 2 else 1
theorem ap_place (n : Nat) (far : Nat → Bool) (h : onlyB n far) : ∀ k, k ≤ n → place (ap n) far (k + 1) = first far + k
  | 0, _ => by
    show place (ap n) far 0 + size (ap n) far 0 = _
    unfold size
    rw [ap_0]
    show (0 : Int) + (if (2 : Int) = 1 then 0 else if far 0 then 2 else 1) = first far + 0
    rw [if_neg (by decide)]
    unfold first
    omega
  | k + 1, hk => by
    rw [place_succ, ap_place n far h k (by omega)]
    have hf : far (k + 1) = false := by
      cases hf : far (k + 1)
      · rfl
      · have := h _ hf; omega
    unfold size
    rw [ap_mid n (k + 1) (by omega) hk, hf]
    show first far + (k : Int) + (if (0 : Int) = 1 then 0 else if false = true then 2 else 1) = first far + ((k + 1 : Nat) : Int)
    rw [if_neg (by decide), if_neg (by decide)]
    omega
theorem ap_end (n : Nat) (far : Nat → Bool) (h : onlyB n far) : place (ap n) far (n + 2) = first far + n := by
  rw [show n + 2 = (n + 1) + 1 by omega, place_succ, ap_place n far h n (Nat.le_refl _)]
  unfold size
  rw [ap_last, if_pos (show (labelL 1).kind = 1 from rfl)]
  omega
theorem ap_dist (n : Nat) (far : Nat → Bool) (h : onlyB n far) : dist (ap n) (n + 2) far 0 = 4 * (first far + n) := by
  have hl : lab (ap n) far (n + 2) 1 = place (ap n) far (n + 1) := by
    show (if (ap n (n + 1)).kind = 1 ∧ (ap n (n + 1)).label = 1 then place (ap n) far (n + 1) else _) = _
    rw [ap_last, if_pos ⟨rfl, rfl⟩]
  show 4 * (lab (ap n) far (n + 2) 1 - 0) = _
  rw [hl, ap_place n far h n (Nat.le_refl _)]
  omega
theorem ap_near (n : Nat) (hn : 4 * (1 + (n : Int)) ≤ 4094) : ∀ k, farN (ap n) (n + 2) k 0 = false
  | 0 => rfl
  | k + 1 => by
    show grow (ap n) (n + 2) (farN (ap n) (n + 2) k) 0 = false
    have ih := ap_near n hn k
    unfold grow
    rw [ih, ap_dist n _ (ap_far n k)]
    have : out (4 * (first (farN (ap n) (n + 2) k) + n)) = false := by
      unfold out first
      rw [ih]
      exact decide_eq_false (by simp; omega)
    rw [this]
    simp
theorem ap_out (n : Nat) (hn : 4094 < 4 * (1 + (n : Int))) : farE (ap n) (n + 2) 0 = true := by
  cases h : farE (ap n) (n + 2) 0
  · exfalso
    have := farE_fix (ap n) (n + 2) 0 (by omega) (by rw [show cand (ap n) 0 = true from rfl]) h
    rw [ap_dist n (farE (ap n) (n + 2)) (ap_far n (n + 2))] at this
    unfold out first at this
    rw [h] at this
    have := of_decide_eq_false this
    simp at this
    omega
  · rfl
theorem near_len : (inss (ap 1022) 1024 (farE (ap 1022) 1024) 1024).length = 1023 := by
  have h := inss_len (ap 1022) 1024 (farE (ap 1022) 1024) 1024
  have e : place (ap 1022) (farE (ap 1022) 1024) 1024 = 1023 := by
    have hp := ap_end 1022 (farE (ap 1022) 1024) (ap_far 1022 1024)
    have h0 : farE (ap 1022) 1024 0 = false := ap_near 1022 (by decide) 1024
    unfold first at hp
    rw [h0] at hp
    exact hp
  omega
theorem far_len : (inss (ap 1023) 1025 (farE (ap 1023) 1025) 1025).length = 1025 := by
  have h := inss_len (ap 1023) 1025 (farE (ap 1023) 1025) 1025
  have e : place (ap 1023) (farE (ap 1023) 1025) 1025 = 1025 := by
    have hp := ap_end 1023 (farE (ap 1023) 1025) (ap_far 1023 1025)
    have h0 : farE (ap 1023) 1025 0 = true := ap_out 1023 (by decide)
    unfold first at hp
    rw [h0] at hp
    exact hp
  omega
theorem far_first : (inss (ap 1023) 1025 (farE (ap 1023) 1025) 1025)[0]? = some ⟨6, 0, 1, 2, 8⟩ ∧ (inss (ap 1023) 1025 (farE (ap 1023) 1025) 1025)[1]? = some ⟨3, 0, 0, 0, 4096⟩ := by
  have h0 : farE (ap 1023) 1025 0 = true := ap_out 1023 (by decide)
  have hd : dist (ap 1023) 1025 (farE (ap 1023) 1025) 0 = 4100 := by
    have hd := ap_dist 1023 (farE (ap 1023) 1025) (ap_far 1023 1025)
    unfold first at hd
    rw [h0] at hd
    exact hd
  obtain ⟨t, ht⟩ := inss_prefix' (ap 1023) 1025 (farE (ap 1023) 1025) 1 1024
  have e1 : inss (ap 1023) 1025 (farE (ap 1023) 1025) 1 = [⟨6, 0, 1, 2, 8⟩, ⟨3, 0, 0, 0, 4096⟩] := by
    show [] ++ insOf (ap 1023) 1025 (farE (ap 1023) 1025) 0 = _
    unfold insOf
    rw [hd, h0, ap_0, if_neg (by decide), if_pos rfl]
    rfl
  rw [e1] at ht
  have ht2 : inss (ap 1023) 1025 (farE (ap 1023) 1025) 1025 = [⟨6, 0, 1, 2, 8⟩, ⟨3, 0, 0, 0, 4096⟩] ++ t := ht
  rw [ht2]
  exact ⟨rfl, rfl⟩
theorem chk_far : rv.chkI 6 0 1 2 8 = 0 ∧ rv.chkI 3 0 0 0 4096 = 0 := by decide +kernel
theorem ap_ok (n : Nat) : ∀ x ∈ apartL n, LnOk x := by
  intro x hx
  unfold apartL at hx
  rcases List.mem_append.1 hx with hx | hx
  · rcases List.mem_cons.1 hx with rfl | hx
    · constructor <;> (unfold i64ok; decide)
    · rw [(List.mem_replicate.1 hx).2]
      constructor <;> (unfold i64ok; decide)
  · simp at hx
    subst hx
    constructor <;> (unfold i64ok; decide)
/-- the small ones of the chapter -/
theorem odd_check : check (nth [labelL 1, labelL 1]) 2 = 7 ∧ check (nth [branchL]) 1 = 6 ∧ check (nth [labelL 0]) 1 = 2 ∧ check (nth [⟨0, 1, 22, 0, 0, 0, 0⟩]) 1 = 2 ∧ inv 3 = 0 := by decide +kernel
end al
/-- lines that are written out -/
theorem lines_lit (L : List kt.Ln) (w : World) (hok : ∀ x ∈ L, kt.LnOk x) (hl : L.length ≤ 100) : kt.Lines (w.alloc (.cells (kt.lnFlat L).toArray 35)) (some ⟨w.heap.size, 0, none⟩) L.length (kt.nth L) := by
  have h := World.ownsRow_lit (base := w.heap.size) (e := 35) (size := 7) w (kt.lnFlat L).toArray L.length (Nat.le_refl _) (by unfold maxLen; omega) (by simp [kt.lnFlat_len])
  obtain ⟨a, cap, e, _, hl⟩ := kt.own_lines rfl h hok (by omega)
  injection e with e1 e2 e3
  rw [e1]
  exact hl
end Go.Proofs.Ytbcflhpaafpndaa
