/- Inverse, labelled, fine. -/
import Derived.Test.YtbcflhpaafpndaaAsGrow
import Derived.Test.YtbcflhpaafpndaaRvPlain
namespace Go.Proofs.Ytbcflhpaafpndaa
open Go.RowKit
set_option linter.unusedVariables false
namespace al
open kt
def chk (x : Ln) : Int := rv.chkI x.op x.rd x.rs1 x.rs2 x.im
def labelled (x : Ln) : Bool := decide (1 ≤ x.label ∧ x.label ≤ 10000)
def goesOp (op : Int) : Bool := isB op || decide (op = 3)
def zeroX (x : Ln) : Bool := decide (x.op = 0 ∧ x.rd = 0 ∧ x.rs1 = 0 ∧ x.rs2 = 0 ∧ x.im = 0)
/-- may a line be, by itself -/
def fine (x : Ln) : Bool :=
  if x.kind = 0 then decide (x.label = 0) && decide (chk x = 0)
  else if x.kind = 1 then labelled x && zeroX x
  else if x.kind = 2 then labelled x && goesOp x.op && decide (x.im = 0) && decide (chk x = 0)
  else false
/-- the operation that branches where another one does not -/
def inv (op : Int) : Int := if op = 5 ∨ op = 7 ∨ op = 9 then op + 1 else if op = 6 ∨ op = 8 ∨ op = 10 then op - 1 else 0
theorem form_J_all : ∀ k, k < 64 → ((decide (k = 3) = true → (rv.row k).form = ⟨#[74]⟩) ∧ (decide (k = 3) = false → ((rv.row k).form.toList == [74]) = false)) := by decide +kernel
theorem form0J : ((rv.row 0).form.toList == [74]) = false := by decide +kernel
theorem form_J (op : Int) : (op = 3 → (rv.rowI op).form = ⟨#[74]⟩) ∧ (op ≠ 3 → ((rv.rowI op).form.toList == [74]) = false) := by
  unfold rv.rowI rv.is
  by_cases h : 1 ≤ op ∧ op < 64
  · rw [decide_eq_true h]
    obtain ⟨k, rfl⟩ : ∃ k : Nat, op = k := ⟨op.toNat, by omega⟩
    have := form_J_all k (by omega)
    simp only [if_true, Int.toNat_natCast]
    exact ⟨fun q => this.1 (decide_eq_true (by omega)), fun q => this.2 (decide_eq_false (by omega))⟩
  · rw [decide_eq_false h]
    simp only [Bool.false_eq_true, if_false]
    exact ⟨fun q => absurd (by omega) h, fun _ => form0J⟩
end al
theorem inverse_any (op : Int) (o0 : -9223372036854775808 ≤ op) (o1 : op ≤ 9223372036854775807) (w : World) : Calls Try.prog 13 #[.int .i64 op] w fun e w' => e = .returned (.int .i64 (al.inv op)) ∧ w = w' := by
  have hc : op = 5 ∨ op = 6 ∨ op = 7 ∨ op = 8 ∨ op = 9 ∨ op = 10 ∨ (op ≠ 5 ∧ op ≠ 6 ∧ op ≠ 7 ∧ op ≠ 8 ∧ op ≠ 9 ∧ op ≠ 10) := by omega
  rcases hc with rfl | rfl | rfl | rfl | rfl | rfl | ⟨h5, h6, h7, h8, h9, h10⟩
  rotate_left 6
  · have hi : al.inv op = 0 := by unfold al.inv; rw [if_neg (by omega), if_neg (by omega)]
    rw [hi]
    have q5 : (op == 5) = false := by simpa using h5
    have q6 : (op == 6) = false := by simpa using h6
    have q7 : (op == 7) = false := by simpa using h7
    have q8 : (op == 8) = false := by simpa using h8
    have q9 : (op == 9) = false := by simpa using h9
    have q10 : (op == 10) = false := by simpa using h10
    clear hi h5 h6 h7 h8 h9 h10
    go_enter Try.func13, Try.ntmps13
    go_wp2
    go_ret
    exact ⟨rfl, rfl⟩
  all_goals
    go_enter Try.func13, Try.ntmps13
    go_wp2
    go_ret
    exact ⟨rfl, rfl⟩
theorem labelled_any (x : kt.Ln) (w : World) : Calls Try.prog 41 #[.agg x.cells] w fun e w' => e = .returned (.bool (al.labelled x)) ∧ Below w.heap.size w w' := by
  obtain ⟨kd, lb, op, rd, rs1, rs2, im⟩ := x
  unfold kt.Ln.cells al.labelled
  dsimp only
  by_cases h : 1 ≤ lb ∧ lb ≤ 10000
  · rw [decide_eq_true h]
    obtain ⟨h1, h2⟩ := h
    go_enter Try.func41, Try.ntmps41
    go_wp2
    go_ret
    exact ⟨rfl, kt.below_row _⟩
  · rw [decide_eq_false h]
    have h' : lb < 1 ∨ (1 ≤ lb ∧ 10000 < lb) := by omega
    clear h
    rcases h' with h | ⟨h1, h⟩
    · have hd : decide (1 ≤ lb) = false := decide_eq_false (by omega)
      go_enter Try.func41, Try.ntmps41
      go_wp2
      go_ret
      exact ⟨rfl, kt.below_row _⟩
    · have hd : decide (lb ≤ 10000) = false := decide_eq_false (by omega)
      go_enter Try.func41, Try.ntmps41
      go_wp2
      go_ret
      exact ⟨rfl, kt.below_row _⟩
end Go.Proofs.Ytbcflhpaafpndaa
