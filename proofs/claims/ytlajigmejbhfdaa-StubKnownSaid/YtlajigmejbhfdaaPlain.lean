/- The numbers of the stub layer in plain Lean: which place a kind and a place have, what a place says, which two numbers make it. No program in sight. -/
import Derived.IntWalk
namespace Go.Proofs.Ytlajigmejbhfdaa.pl

/-- is there such a stub -/
def okB (k p : Int) : Bool := decide (0 ≤ k ∧ k < 8 ∧ 0 ≤ p ∧ p < 4096)
def adr (k p : Int) : Int := if okB k p then 1073741824 + 16 * (8 * p + k) else 0
def adrE (k p : Int) : Int := if okB k p then 0 else 2
/-- is that a stub's place -/
def isB (a : Int) : Bool := decide (1073741824 ≤ a ∧ a % 16 = 0 ∧ a < 1073741824 + 16 * 32768)
def whK (a : Int) : Int := if isB a then (a - 1073741824) / 16 % 8 else 0
def whP (a : Int) : Int := if isB a then (a - 1073741824) / 128 else 0
def low (a : Int) : Int := if 2048 ≤ a % 4096 then a % 4096 - 4096 else a % 4096
def upL (a : Int) : Int := if isB a then low a else 0
def upH (a : Int) : Int := if isB a then (a - low a) / 4096 else 0

theorem okB_of {k p : Int} (h : 0 ≤ k ∧ k < 8 ∧ 0 ≤ p ∧ p < 4096) : okB k p = true := decide_eq_true h
theorem okB_not {k p : Int} (h : ¬ (0 ≤ k ∧ k < 8 ∧ 0 ≤ p ∧ p < 4096)) : okB k p = false := decide_eq_false h
theorem adr_of {k p : Int} (h : 0 ≤ k ∧ k < 8 ∧ 0 ≤ p ∧ p < 4096) : adr k p = 1073741824 + 16 * (8 * p + k) := by simp [adr, okB_of h]
theorem adrE_of {k p : Int} (h : 0 ≤ k ∧ k < 8 ∧ 0 ≤ p ∧ p < 4096) : adrE k p = 0 := by simp [adrE, okB_of h]
theorem adr_not {k p : Int} (h : ¬ (0 ≤ k ∧ k < 8 ∧ 0 ≤ p ∧ p < 4096)) : adr k p = 0 := by simp [adr, okB_not h]
theorem adrE_not {k p : Int} (h : ¬ (0 ≤ k ∧ k < 8 ∧ 0 ≤ p ∧ p < 4096)) : adrE k p = 2 := by simp [adrE, okB_not h]
theorem isB_of {a : Int} (h : 1073741824 ≤ a ∧ a % 16 = 0 ∧ a < 1073741824 + 16 * 32768) : isB a = true := decide_eq_true h
theorem isB_not {a : Int} (h : ¬ (1073741824 ≤ a ∧ a % 16 = 0 ∧ a < 1073741824 + 16 * 32768)) : isB a = false := decide_eq_false h
theorem isB_iff {a : Int} (h : isB a = true) : 1073741824 ≤ a ∧ a % 16 = 0 ∧ a < 1073741824 + 16 * 32768 := of_decide_eq_true h

end Go.Proofs.Ytlajigmejbhfdaa.pl
