/- goes: how many bytes a line goes. -/
import Derived.Test.YtbcflhpaafpndaaAsLay
import Derived.Deep.QuietTactic
import Derived.BigQuiet
namespace Go.Proofs.Ytbcflhpaafpndaa
open Go.RowKit
set_option linter.unusedVariables false
theorem own_cell {w : World} {base n : Nat} {e : TypeId} {v : Value} {xs : List Value} (h : w.ownsRow base e 1 v n xs) (hn : 0 < n) : ∃ g cap, v = .slice (some ⟨g, 0, none⟩) n cap ∧ base ≤ g ∧ g < w.heap.size ∧ ∀ i u, xs[i]? = some u → w.cell? ⟨g, i, none⟩ = some u := by
  rcases h.2 with ⟨_, h0⟩ | ⟨g, cap, cur, h1, h2, h3, h4, h5, h6, h7⟩
  · omega
  · refine ⟨g, cap, h1, h2, (Array.getElem?_eq_some_iff.1 h3).1, fun i u hu => ?_⟩
    rw [cell_of_row _ _ _ _ _ _ h3]
    rw [← h7] at hu
    rw [List.getElem?_take] at hu
    split at hu
    · simpa using hu
    · cases hu
theorem placeVals_at (ls : Nat → kt.Ln) (far : Nat → Bool) (k i : Nat) (hi : i < k) : (placeVals ls far k)[i]? = some (.int .i64 (al.place ls far i)) := by
  unfold placeVals
  simp [hi]
/-- what a plan's readers read -/
structure PlanAt (w : World) (Pb : Nat) (a : Option Addr) (n c : Nat) (fa : Option Addr) (fc : Nat) (ls : Nat → kt.Ln) (far : Nat → Bool) (base : Nat) (pv : Value) (Bm : Nat) : Prop where
  plan : w.heap[Pb]? = some (.cells (planCells a n c fa n fc pv (.map (some Bm))) 62 (0, 0))
  own : w.ownsRow base 3 1 pv (n + 1) (placeVals ls far (n + 1))
  map : kt.IntMap Try.prog 3 3 w Bm n (al.lab ls far n)
  lines : kt.Lines w a n ls
set_option maxRecDepth 100000 in
set_option maxHeartbeats 1600000 in
theorem goes_any (Pb : Nat) (a : Option Addr) (n c : Nat) (fa : Option Addr) (fc : Nat) (ls : Nat → kt.Ln) (far : Nat → Bool) (base : Nat) (pv : Value) (Bm i : Nat) (w : World) (hn : n ≤ 4000) (hi : i < n) (h : PlanAt w Pb a n c fa fc ls far base pv Bm) :
    Calls Try.prog 25 #[.pointer (some ⟨Pb, 0, none⟩), .int .i64 i] w fun e w' => e = .returned (.int .i64 (al.dist ls n far i)) ∧ ∃ m, w' = w.drewN m := by
  obtain ⟨g, cap, rfl, hg0, hg1, hcell⟩ := own_cell h.own (by omega)
  have pc := hcell i _ (placeVals_at ls far (n + 1) i (by omega))
  have hla : ∃ b off, a = some ⟨b, off, none⟩ ∧ kt.LnAt w b (off + i * 7) (ls i) := by
    rcases h.lines.at' with h0 | ⟨b, off, e, h0⟩
    · omega
    · exact ⟨b, off, e, h0 i hi⟩
  obtain ⟨b, off, rfl, hla⟩ := hla
  have hok := (h.lines.ok i hi).label
  have c0 : w.cell? ⟨Pb, 0, none⟩ = some (.slice (some ⟨b, off, none⟩) n c) := (cell_of_row _ _ _ _ _ _ h.plan).trans rfl
  have c2 : w.cell? ⟨Pb, 2, none⟩ = some (.slice (some ⟨g, 0, none⟩) (n + 1) cap) := (cell_of_row _ _ _ _ _ _ h.plan).trans rfl
  have c3 : w.cell? ⟨Pb, 3, none⟩ = some (.map (some Bm)) := (cell_of_row _ _ _ _ _ _ h.plan).trans rfl
  have l1 := hla.c1
  have hlk := fun m => (h.map.kept (w' := w.drewN m) rfl).look (t := 60) Try.underlying3 Try.underlying60 Try.underlying3 int_zero (ls i).label (WalkArith.wf_i64 (by unfold kt.i64ok at hok; omega))
  have hp := al.place_bd ls far i
  have hb := al.lab_bd ls far (ls i).label n
  obtain ⟨q, hq⟩ : ∃ q, al.place ls far i = q := ⟨_, rfl⟩
  obtain ⟨u, hu⟩ : ∃ u, al.lab ls far n (ls i).label = u := ⟨_, rfl⟩
  obtain ⟨x, hx⟩ : ∃ x, (ls i).label = x := ⟨_, rfl⟩
  have hd : al.dist ls n far i = 4 * (u - q) := by unfold al.dist; rw [hu, hq]
  rw [hd]
  rw [hq] at pc hp
  rw [hu] at hb hlk
  rw [hx] at l1 hlk
  obtain ⟨hp0, hp1⟩ := hp
  obtain ⟨hb0, hb1⟩ := hb
  have b1 : -16000 ≤ u - q := by omega
  have b2 : u - q ≤ 16000 := by omega
  have s1 : IntKind.i64.wrap (u - q) = u - q := IntWalk.i64_in _ (by omega)
  have s2 : IntKind.i64.wrap (4 * (u - q)) = 4 * (u - q) := IntWalk.i64_in _ (by omega)
  clear hq hu hx hd hok hla hcell
  have hi1 : (i : Int) < n := by omega
  have hi2 : (i : Int) < n + 1 := by omega
  have hi3 : decide (i < n) = true := decide_eq_true hi
  have hi4 : decide (i < n + 1) = true := decide_eq_true (by omega)
  have lb : b < w.heap.size := block_lt_of_cell l1
  clear h
  go_enter Try.func25, Try.ntmps25
  go_wp2
  go_quiet (fail)
  go_wp2
  go_ret
  exact ⟨rfl, _, rfl⟩
end Go.Proofs.Ytbcflhpaafpndaa
