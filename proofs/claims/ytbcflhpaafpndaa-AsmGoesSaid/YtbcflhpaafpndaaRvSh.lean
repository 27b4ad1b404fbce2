/- The shape of an operation's form. -/
import Derived.Test.YtbcflhpaafpndaaRvAt
namespace Go.Proofs.Ytbcflhpaafpndaa
open Go.RowKit
set_option linter.unusedVariables false

namespace rv
def letter (f : ByteArray) : Nat := (f.data.toList.headD 0).toNat
/-- the shape of a form's letter -/
def shL : Nat → Shape
  | 82 => shR
  | 73 => shI
  | 88 => shX
  | 89 => shY
  | 83 => shS
  | 66 => shB
  | 85 => shU
  | 74 => shJ
  | _ => shE
/-- the shape of an operation -/
def sh (k : Nat) : Shape := shL (letter (row k).form)
/-- the form's letter of an operation -/
def lt (k : Nat) : Nat := letter (row k).form
theorem form_cases : ∀ k, k < 64 → 1 ≤ k → (row k).form = ⟨#[82]⟩ ∨ (row k).form = ⟨#[73]⟩ ∨ (row k).form = ⟨#[88]⟩ ∨ (row k).form = ⟨#[89]⟩ ∨ (row k).form = ⟨#[83]⟩ ∨ (row k).form = ⟨#[66]⟩ ∨ (row k).form = ⟨#[85]⟩ ∨ (row k).form = ⟨#[74]⟩ ∨ (row k).form = ⟨#[69]⟩ := by decide +kernel
/-- what all shapes have in common -/
structure Good (s : Shape) : Prop where
  n : s.fs.length ≤ 3
  k : ∀ f ∈ s.fs, f.k = 1 ∨ f.k = 2 ∨ f.k = 3 ∨ f.k = 4
  p : ∀ f ∈ s.fs, f.ps.length ≤ 4 ∧ 0 < f.ps.length ∧ ∀ q ∈ f.ps, (0 ≤ q.1 ∧ q.1 ≤ 20) ∧ (1 ≤ q.2.1 ∧ q.2.1 ≤ 20) ∧ (0 ≤ q.2.2 ∧ q.2.2 ≤ 31) ∧ q.1 + q.2.1 ≤ 21
  st : s.step = 0 ∨ s.step = 1 ∨ s.step = 2
  lo : -1048576 ≤ s.low ∧ s.low ≤ 0
  hi : 0 ≤ s.high ∧ s.high ≤ 1048574
instance (s : Shape) : Decidable (s.step = 0 ∨ s.step = 1 ∨ s.step = 2) := inferInstance
theorem good (k : Nat) (h1 : k < 64) (h2 : 1 ≤ k) : Good (sh k) := by
  unfold sh
  rcases form_cases k h1 h2 with h | h | h | h | h | h | h | h | h <;> rw [h] <;> exact ⟨by decide, by decide, by decide, by decide, by decide, by decide⟩
end rv
theorem shaped_of (k : Nat) (h1 : k < 64) (h2 : 1 ≤ k) (w : World) : Calls Try.prog 27 #[.string (rv.row k).form] w (ShapePost (rv.sh k) w) := by
  unfold rv.sh
  rcases rv.form_cases k h1 h2 with h | h | h | h | h | h | h | h | h <;> rw [h]
  · exact shaped_R w
  · exact shaped_I w
  · exact shaped_X w
  · exact shaped_Y w
  · exact shaped_S w
  · exact shaped_B w
  · exact shaped_U w
  · exact shaped_J w
  · exact shaped_E w
/-- the i-th of the fields -/
theorem FldsAt.at {w : World} {F : Nat} : ∀ (fs : List rv.Fld) (i j : Nat) (f : rv.Fld), FldsAt w F i fs → fs[j]? = some f → FldAt w F (i + j) f
  | [], _, _, _, _, h => by simp at h
  | g :: r, i, 0, f, h, e => by
    simp at e
    rw [← e]
    exact h.1
  | g :: r, i, j + 1, f, h, e => by
    have := FldsAt.at r (i + 1) j f h.2 (by simpa using e)
    rwa [show i + 1 + j = i + (j + 1) by omega] at this
theorem PiecesAt.at {w : World} {P : Nat} : ∀ (ps : List (Int × Int × Int)) (i j : Nat) (p : Int × Int × Int), PiecesAt w P i ps → ps[j]? = some p → w.cell? ⟨P, (i + j) * 3, none⟩ = some (.int .i64 p.1) ∧ w.cell? ⟨P, (i + j) * 3 + 1, none⟩ = some (.int .i64 p.2.1) ∧ w.cell? ⟨P, (i + j) * 3 + 2, none⟩ = some (.int .i64 p.2.2)
  | [], _, _, _, _, h => by simp at h
  | g :: r, i, 0, f, h, e => by
    simp at e
    rw [← e]
    exact h.1
  | g :: r, i, j + 1, f, h, e => by
    have := PiecesAt.at r (i + 1) j f h.2 (by simpa using e)
    rwa [show i + 1 + j = i + (j + 1) by omega] at this
end Go.Proofs.Ytbcflhpaafpndaa
