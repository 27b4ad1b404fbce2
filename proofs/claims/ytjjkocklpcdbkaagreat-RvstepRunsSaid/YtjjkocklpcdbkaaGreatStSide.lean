/- Pick; a run is two runs; a machine beside another. -/
import Derived.Test.YtjjkocklpcdbkaaGreatStBegin
import Derived.Test.YtjjkocklpcdbkaaGreatStAwake
namespace Go.Proofs.YtjjkocklpcdbkaaGreat
open Go.RowKit
set_option linter.unusedVariables false
set_option maxRecDepth 100000
def st.pickV (x n : Int) : Int := (x.tmod n + n) % n
theorem st.pick_bd (x n : Int) (h : 1 ≤ n) : 0 ≤ st.pickV x n ∧ st.pickV x n < n := by
  unfold st.pickV
  exact ⟨Int.emod_nonneg _ (by omega), Int.emod_lt_of_pos _ (by omega)⟩
theorem pick_val (x n : Int) (w : World) (h1 : 1 ≤ n) (h2 : n ≤ 1000000) (hx0 : -9223372036854775808 ≤ x) (hx1 : x ≤ 9223372036854775807) :
    Calls Tryz.prog 9 #[.int .i64 x, .int .i64 n] w fun e w' => e = .returned (.int .i64 (st.pickV x n)) ∧ w = w' := by
  have b1 : -n < x.tmod n := by have := Int.lt_tmod_of_pos x (b := n) (by omega); omega
  have b2 : x.tmod n < n := Int.tmod_lt_of_pos x (by omega)
  go_enter Tryz.func9, Tryz.ntmps9
  go_wp2
  go_ret
  exact ⟨rfl, rfl⟩
namespace st
/-- a run, and then another -/
theorem runS_add (code : Nat → Told) (n : Nat) (s : S) (a : Nat) (h : (runS code n s a).1 = 0) : ∀ b, runS code n s (a + b) = ((runS code n (runS code n s a).2.2 b).1, (runS code n s a).2.1 + (runS code n (runS code n s a).2.2 b).2.1, (runS code n (runS code n s a).2.2 b).2.2)
  | 0 => by
    show runS code n s a = (0, (runS code n s a).2.1 + 0, (runS code n s a).2.2)
    rw [Int.add_zero, ← h]
  | b + 1 => by
    have ih := runS_add code n s a h b
    show (if (runS code n s (a + b)).1 ≠ 0 then runS code n s (a + b) else if (step code n (runS code n s (a + b)).2.2).1 = 0 then (0, (runS code n s (a + b)).2.1 + 1, (step code n (runS code n s (a + b)).2.2).2) else ((step code n (runS code n s (a + b)).2.2).1, (runS code n s (a + b)).2.1, (step code n (runS code n s (a + b)).2.2).2)) = _
    rw [ih]
    obtain ⟨q, hq⟩ : ∃ q, runS code n s a = q := ⟨_, rfl⟩
    rw [hq]
    show _ = ((if (runS code n q.2.2 b).1 ≠ 0 then runS code n q.2.2 b else if (step code n (runS code n q.2.2 b).2.2).1 = 0 then (0, (runS code n q.2.2 b).2.1 + 1, (step code n (runS code n q.2.2 b).2.2).2) else ((step code n (runS code n q.2.2 b).2.2).1, (runS code n q.2.2 b).2.1, (step code n (runS code n q.2.2 b).2.2).2)).1, q.2.1 + (if (runS code n q.2.2 b).1 ≠ 0 then runS code n q.2.2 b else if (step code n (runS code n q.2.2 b).2.2).1 = 0 then (0, (runS code n q.2.2 b).2.1 + 1, (step code n (runS code n q.2.2 b).2.2).2) else ((step code n (runS code n q.2.2 b).2.2).1, (runS code n q.2.2 b).2.1, (step code n (runS code n q.2.2 b).2.2).2)).2.1, (if (runS code n q.2.2 b).1 ≠ 0 then runS code n q.2.2 b else if (step code n (runS code n q.2.2 b).2.2).1 = 0 then (0, (runS code n q.2.2 b).2.1 + 1, (step code n (runS code n q.2.2 b).2.2).2) else ((step code n (runS code n q.2.2 b).2.2).1, (runS code n q.2.2 b).2.1, (step code n (runS code n q.2.2 b).2.2).2)).2.2)
    dsimp only
    obtain ⟨r, hr⟩ : ∃ r, runS code n q.2.2 b = r := ⟨_, rfl⟩
    rw [hr]
    by_cases h1 : r.1 ≠ 0
    · rw [if_pos h1, if_pos h1]
    · rw [if_neg h1, if_neg h1]
      by_cases h2 : (step code n r.2.2).1 = 0
      · rw [if_pos h2, if_pos h2]
        dsimp only
        rw [Int.add_assoc]
      · rw [if_neg h2, if_neg h2]
end st
theorem own_cell {w : World} {base n : Nat} {e : TypeId} {v : Value} {xs : List Value} (h : w.ownsRow base e 1 v n xs) (hn : 0 < n) : ∃ g cap, v = .slice (some ⟨g, 0, none⟩) n cap ∧ base ≤ g ∧ g < w.heap.size ∧ ∀ i u, xs[i]? = some u → w.cell? ⟨g, i, none⟩ = some u := by
  rcases h.2 with ⟨_, h0⟩ | ⟨g, cap, cur, h1, h2, h3, h4, h5, h6, h7⟩
  · omega
  · refine ⟨g, cap, h1, h2, (Array.getElem?_eq_some_iff.1 h3).1, fun i u hu => ?_⟩
    rw [cell_of_row _ _ _ _ _ _ h3, ← Array.getElem?_toList]
    rw [← h7] at hu
    by_cases hi : i < n * 1
    · rwa [List.getElem?_take_of_lt hi] at hu
    · rw [List.getElem?_take_eq_none (by omega)] at hu
      cases hu
/-- a machine stays where another turns -/
theorem IsMach.other {w w' : World} {P P' : st.Pl} {code code' : Nat → st.Told} {s s' : st.S} (h : IsMach w P code s) (h' : IsMach w P' code' s') (hb : But2 P'.p P'.g w w') (hp : P.p ≠ P'.p) (hg : P.g ≠ P'.g) : IsMach w' P code s := by
  obtain ⟨rest', hr'⟩ := h'.mem.row
  obtain ⟨rest, hr⟩ := h.mem.row
  obtain ⟨cap, _, hh⟩ := h.mem.head
  have e1 : P.p ≠ P'.g := type_ne h.row hr' (by decide)
  have e2 : P.mp ≠ P'.p := type_ne hh h'.row (by decide)
  have e3 : P.mp ≠ P'.g := type_ne hh hr' (by decide)
  have e4 : P.g ≠ P'.p := type_ne hr h'.row (by decide)
  have e5 : P.db ≠ P'.p := fun e => h.deeds.is_map (e ▸ h'.row)
  have e6 : P.db ≠ P'.g := fun e => h.deeds.is_map (e ▸ hr')
  refine ⟨(hb.block _ hp e1 h.lt).trans h.row, h.mem.kept (hb.block _ e2 e3 h.mem.lt.1) (hb.block _ e4 hg h.mem.lt.2), h.deeds.kept (hb.block _ e5 e6 h.deeds.lt), h.told.kept (fun b _ hl hc => ?_), h.ok, h.ins, h.small⟩
  obtain ⟨cs, hc⟩ := hc
  exact hb.block _ (type_ne hc h'.row (by decide)) (type_ne hc hr' (by decide)) hl
end Go.Proofs.YtjjkocklpcdbkaaGreat
