/- Lists of lines in new memory; Pick. -/
import Derived.Test.YtbcflhpaafpndaaAsThree
import Derived.Laws.OwnMore
namespace Go.Proofs.Ytbcflhpaafpndaa
open Go.RowKit
set_option linter.unusedVariables false
namespace kt
/-- the cells of some lines -/
def lnFlat (L : List Ln) : List Value := L.flatMap fun x => x.cells.toList
def zLn : Ln := ⟨0, 0, 0, 0, 0, 0, 0⟩
/-- the i-th line -/
def nth (L : List Ln) (i : Nat) : Ln := L.getD i zLn
theorem lnFlat_app (a b : List Ln) : lnFlat (a ++ b) = lnFlat a ++ lnFlat b := List.flatMap_append ..
theorem lnFlat_len : ∀ l : List Ln, (lnFlat l).length = l.length * 7
  | [] => rfl
  | x :: l => by
    show (x.cells.toList ++ lnFlat l).length = (l.length + 1) * 7
    rw [List.length_append, lnFlat_len l]
    show 7 + _ = _
    omega
theorem lnFlat_at : ∀ (l : List Ln) (j : Nat) (x : Ln), l[j]? = some x → ∀ i, i < 7 → (lnFlat l)[j * 7 + i]? = x.cells.toList[i]?
  | [], j, x, h, i, hi => by simp at h
  | y :: l, 0, x, h, i, hi => by
    simp at h
    subst h
    show (y.cells.toList ++ lnFlat l)[0 * 7 + i]? = _
    rw [List.getElem?_append_left (by show _ < 7; omega)]
    congr 1
    omega
  | y :: l, j + 1, x, h, i, hi => by
    have := lnFlat_at l j x (by simpa using h) i hi
    show (y.cells.toList ++ lnFlat l)[(j + 1) * 7 + i]? = _
    rw [List.getElem?_append_right (by show 7 ≤ _; omega), show (j + 1) * 7 + i - y.cells.toList.length = j * 7 + i by show (j + 1) * 7 + i - 7 = _; omega, this]
theorem lnFlat_one (L : List Ln) : ∀ u ∈ lnFlat L, u.oneCell' = true := by
  intro u hu
  obtain ⟨x, _, hx⟩ := List.mem_flatMap.1 hu
  simp [Ln.cells] at hx
  rcases hx with rfl | rfl | rfl | rfl | rfl | rfl | rfl <;> rfl
theorem nth_at (L : List Ln) (i : Nat) (h : i < L.length) : L[i]? = some (nth L i) := by
  unfold nth
  rw [List.getD_eq_getElem?_getD, List.getElem?_eq_getElem h]
  rfl
theorem nth_mem (L : List Ln) (i : Nat) (h : i < L.length) : nth L i ∈ L := List.mem_of_getElem? (nth_at L i h)
/-- a slice of its own whose cells are those of lines -/
theorem own_lines {w : World} {base n : Nat} {v : Value} {L : List Ln} (hn : n = L.length) (h : w.ownsRow base 35 7 v n (lnFlat L)) (hok : ∀ x ∈ L, LnOk x) (hs : L.length * 56 ≤ 140737488351232) :
    ∃ a cap, v = .slice a n cap ∧ n ≤ cap ∧ Lines w a n (nth L) := by
  subst hn
  rcases h.2 with ⟨rfl, h0⟩ | ⟨g, cap, cur, h1, h2, h3, h4, h5, h6, h7⟩
  · have h0 : L.length = 0 := h0
    exact ⟨none, 0, by rw [h0], by omega, fun i hi => by omega, hs, .inl h0⟩
  · have hc : ∀ i u, (lnFlat L)[i]? = some u → w.cell? ⟨g, i, none⟩ = some u := by
      intro i u hu
      rw [cell_of_row _ _ _ _ _ _ h3]
      rw [← h7] at hu
      rw [List.getElem?_take] at hu
      split at hu
      · simpa using hu
      · cases hu
    refine ⟨_, cap, h1, h4, fun i hi => hok _ (nth_mem L i hi), hs, .inr ⟨g, 0, rfl, fun i hi => ?_⟩⟩
    have hf := lnFlat_at L i _ (nth_at L i hi)
    have hz : 0 + i * 7 = i * 7 := by omega
    rw [hz]
    exact ⟨hc _ _ ((hf 0 (by omega)).trans rfl), hc _ _ ((hf 1 (by omega)).trans rfl), hc _ _ ((hf 2 (by omega)).trans rfl), hc _ _ ((hf 3 (by omega)).trans rfl), hc _ _ ((hf 4 (by omega)).trans rfl), hc _ _ ((hf 5 (by omega)).trans rfl), hc _ _ ((hf 6 (by omega)).trans rfl)⟩
end kt
theorem al.inss_prefix' (ls : Nat → kt.Ln) (n : Nat) (far : Nat → Bool) (m : Nat) : ∀ k, ∃ t, al.inss ls n far (m + k) = al.inss ls n far m ++ t
  | 0 => ⟨[], by simp⟩
  | k + 1 => by
    obtain ⟨t, ht⟩ := al.inss_prefix' ls n far m k
    refine ⟨t ++ al.insOf ls n far (m + k), ?_⟩
    show al.inss ls n far (m + k) ++ al.insOf ls n far (m + k) = _
    rw [ht, List.append_assoc]
/-- what a call that tells a list of lines answers -/
def ListPost (L : List kt.Ln) (w : World) (e : Ending) (w' : World) : Prop :=
  ∃ v, e = .returned v ∧ w'.ownsRow w.heap.size 35 7 v L.length (kt.lnFlat L) ∧ Below w.heap.size w w'
theorem line_parts : (Try.prog.info? 35).map (fun i => (i.zero, i.size, i.bytes)) = some (some (.agg #[.int .i64 0, .int .i64 0, .int .i64 0, .int .i64 0, .int .i64 0, .int .i64 0, .int .i64 0]), 7, 56) := by kernel_rfl
def al.pickV (x n : Int) : Int := (x.tmod n + n) % n
theorem al.pick_bd (x n : Int) (h : 1 ≤ n) : 0 ≤ al.pickV x n ∧ al.pickV x n < n := by
  unfold al.pickV
  exact ⟨Int.emod_nonneg _ (by omega), Int.emod_lt_of_pos _ (by omega)⟩
theorem pick_val (x n : Int) (w : World) (h1 : 1 ≤ n) (h2 : n ≤ 1000000) (hx0 : -9223372036854775808 ≤ x) (hx1 : x ≤ 9223372036854775807) :
    Calls Try.prog 22 #[.int .i64 x, .int .i64 n] w fun e w' => e = .returned (.int .i64 (al.pickV x n)) ∧ w = w' := by
  have b1 : -n < x.tmod n := by have := Int.lt_tmod_of_pos x (b := n) (by omega); omega
  have b2 : x.tmod n < n := Int.tmod_lt_of_pos x (by omega)
  go_enter Try.func22, Try.ntmps22
  go_wp2
  go_ret
  exact ⟨rfl, rfl⟩
theorem pick_none (x : Int) (w : World) :
    Calls Try.prog 22 #[.int .i64 x, .int .i64 0] w fun e w' => e = .returned (.int .i64 0) ∧ w = w' := by
  go_enter Try.func22, Try.ntmps22
  go_wp2
  go_ret
  exact ⟨rfl, rfl⟩
end Go.Proofs.Ytbcflhpaafpndaa
