/- The numbers of the frame layer in plain Lean. No program in sight. -/
import Derived.IntWalk
namespace Go.Proofs.Yteemlbkbfngoeaa.pl
/-- may a frame have these registers and this area -/
def okB (r a : Int) : Bool := decide (0 ≤ r ∧ r ≤ 64 ∧ 0 ≤ a ∧ a ≤ 4096)
def siz (r a : Int) : Int := if okB r a then (8 * r + a + 15) / 16 * 16 else 0
def sizE (r a : Int) : Int := if okB r a then 0 else 2
def flo (n : Int) : Int := if decide (0 ≤ n ∧ n ≤ 8192) then (16 + n + 15) / 16 * 16 else 0
def floE (n : Int) : Int := if decide (0 ≤ n ∧ n ≤ 8192) then 0 else 2
def top (n : Int) : Int := if decide (16 ≤ n ∧ n ≤ 65536) then n / 16 * 16 else 0
def topE (n : Int) : Int := if decide (16 ≤ n ∧ n ≤ 65536) then 0 else 2
/-- is a place none -/
def oddB (a : Int) : Bool := decide (a % 16 ≠ 0 ∨ 65536 < a)
def psh (t r a f : Int) : Int := if okB r a then if oddB t || oddB f then 0 else if t < f + (8 * r + a + 15) / 16 * 16 then 0 else t - (8 * r + a + 15) / 16 * 16 else 0
def pshE (t r a f : Int) : Int := if okB r a then if oddB t || oddB f then 5 else if t < f + (8 * r + a + 15) / 16 * 16 then 8 else 0 else 2
def pop (t r a : Int) : Int := if okB r a then if oddB t then 0 else t + (8 * r + a + 15) / 16 * 16 else 0
def popE (t r a : Int) : Int := if okB r a then if oddB t then 5 else 0 else 2
def slt (t r : Int) : Int := (t + 8 * r) % 18446744073709551616
def are (t r n : Int) : Int := (t + 8 * r + n) % 18446744073709551616

theorem okB_of {r a : Int} (h : 0 ≤ r ∧ r ≤ 64 ∧ 0 ≤ a ∧ a ≤ 4096) : okB r a = true := decide_eq_true h
theorem okB_not {r a : Int} (h : ¬ (0 ≤ r ∧ r ≤ 64 ∧ 0 ≤ a ∧ a ≤ 4096)) : okB r a = false := decide_eq_false h
theorem oddB_of {a : Int} (h : a % 16 ≠ 0 ∨ 65536 < a) : oddB a = true := decide_eq_true h
theorem oddB_not {a : Int} (h : ¬ (a % 16 ≠ 0 ∨ 65536 < a)) : oddB a = false := decide_eq_false h
end Go.Proofs.Yteemlbkbfngoeaa.pl
