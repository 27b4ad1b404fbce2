/- shaped at the forms without an immediate. What the loops over a form's fields read, kept while old memory stays. The shape of an operation's form. A world that has turned in one block alone; the fields of a form beside such a block. read's fields, in plain numbers. word and Check at form E. -/
import Derived.Test.YtjjkocklpcdbkaaGreatRvShape
import Derived.Deep.QuietTactic
import Derived.IntWalk
import Derived.BigQuiet
import Derived.Outline
namespace Go.Proofs.YtjjkocklpcdbkaaGreat
open Go.RowKit
set_option linter.unusedVariables false
set_option maxRecDepth 100000

theorem chain8 (w : World) (o0 o1 o2 o3 o4 o5 o6 o7 : Obj) : ((((((((w.alloc o0).alloc o1).alloc o2).alloc o3).alloc o4).alloc o5).alloc o6).alloc o7).heap[w.heap.size]? = some o0 ∧ ((((((((w.alloc o0).alloc o1).alloc o2).alloc o3).alloc o4).alloc o5).alloc o6).alloc o7).heap[w.heap.size + 1]? = some o1 ∧ ((((((((w.alloc o0).alloc o1).alloc o2).alloc o3).alloc o4).alloc o5).alloc o6).alloc o7).heap[w.heap.size + 1 + 1]? = some o2 ∧ ((((((((w.alloc o0).alloc o1).alloc o2).alloc o3).alloc o4).alloc o5).alloc o6).alloc o7).heap[w.heap.size + 1 + 1 + 1]? = some o3 ∧ ((((((((w.alloc o0).alloc o1).alloc o2).alloc o3).alloc o4).alloc o5).alloc o6).alloc o7).heap[w.heap.size + 1 + 1 + 1 + 1]? = some o4 ∧ ((((((((w.alloc o0).alloc o1).alloc o2).alloc o3).alloc o4).alloc o5).alloc o6).alloc o7).heap[w.heap.size + 1 + 1 + 1 + 1 + 1]? = some o5 ∧ ((((((((w.alloc o0).alloc o1).alloc o2).alloc o3).alloc o4).alloc o5).alloc o6).alloc o7).heap[w.heap.size + 1 + 1 + 1 + 1 + 1 + 1]? = some o6 ∧ ((((((((w.alloc o0).alloc o1).alloc o2).alloc o3).alloc o4).alloc o5).alloc o6).alloc o7).heap[w.heap.size + 1 + 1 + 1 + 1 + 1 + 1 + 1]? = some o7 ∧ Below w.heap.size w ((((((((w.alloc o0).alloc o1).alloc o2).alloc o3).alloc o4).alloc o5).alloc o6).alloc o7) := by
  have s1 : (w.alloc o0).heap.size = w.heap.size + 1 := by rw [World.size_alloc]
  have s2 : ((w.alloc o0).alloc o1).heap.size = w.heap.size + 1 + 1 := by rw [World.size_alloc, s1]
  have s3 : (((w.alloc o0).alloc o1).alloc o2).heap.size = w.heap.size + 1 + 1 + 1 := by rw [World.size_alloc, s2]
  have s4 : ((((w.alloc o0).alloc o1).alloc o2).alloc o3).heap.size = w.heap.size + 1 + 1 + 1 + 1 := by rw [World.size_alloc, s3]
  have s5 : (((((w.alloc o0).alloc o1).alloc o2).alloc o3).alloc o4).heap.size = w.heap.size + 1 + 1 + 1 + 1 + 1 := by rw [World.size_alloc, s4]
  have s6 : ((((((w.alloc o0).alloc o1).alloc o2).alloc o3).alloc o4).alloc o5).heap.size = w.heap.size + 1 + 1 + 1 + 1 + 1 + 1 := by rw [World.size_alloc, s5]
  have s7 : (((((((w.alloc o0).alloc o1).alloc o2).alloc o3).alloc o4).alloc o5).alloc o6).heap.size = w.heap.size + 1 + 1 + 1 + 1 + 1 + 1 + 1 := by rw [World.size_alloc, s6]
  have s8 : ((((((((w.alloc o0).alloc o1).alloc o2).alloc o3).alloc o4).alloc o5).alloc o6).alloc o7).heap.size = w.heap.size + 1 + 1 + 1 + 1 + 1 + 1 + 1 + 1 := by rw [World.size_alloc, s7]
  refine ⟨?_, ?_, ?_, ?_, ?_, ?_, ?_, ?_, ?_⟩
  · rw [heap_alloc_old _ _ (by omega), heap_alloc_old _ _ (by omega), heap_alloc_old _ _ (by omega), heap_alloc_old _ _ (by omega), heap_alloc_old _ _ (by omega), heap_alloc_old _ _ (by omega), heap_alloc_old _ _ (by omega), heap_alloc_new]
  · rw [heap_alloc_old _ _ (by omega), heap_alloc_old _ _ (by omega), heap_alloc_old _ _ (by omega), heap_alloc_old _ _ (by omega), heap_alloc_old _ _ (by omega), heap_alloc_old _ _ (by omega), ← s1, heap_alloc_new]
  · rw [heap_alloc_old _ _ (by omega), heap_alloc_old _ _ (by omega), heap_alloc_old _ _ (by omega), heap_alloc_old _ _ (by omega), heap_alloc_old _ _ (by omega), ← s2, heap_alloc_new]
  · rw [heap_alloc_old _ _ (by omega), heap_alloc_old _ _ (by omega), heap_alloc_old _ _ (by omega), heap_alloc_old _ _ (by omega), ← s3, heap_alloc_new]
  · rw [heap_alloc_old _ _ (by omega), heap_alloc_old _ _ (by omega), heap_alloc_old _ _ (by omega), ← s4, heap_alloc_new]
  · rw [heap_alloc_old _ _ (by omega), heap_alloc_old _ _ (by omega), ← s5, heap_alloc_new]
  · rw [heap_alloc_old _ _ (by omega), ← s6, heap_alloc_new]
  · rw [← s7, heap_alloc_new]
  · exact (((((((((Below.refl _ _).alloc (Nat.le_refl _) o0).alloc (by omega) o1).alloc (by omega) o2).alloc (by omega) o3).alloc (by omega) o4).alloc (by omega) o5).alloc (by omega) o6).alloc (by omega) o7)
set_option maxRecDepth 100000 in
set_option maxHeartbeats 1600000 in
theorem shaped_R (w : World) : Calls Tryz.prog 92 #[.string ⟨#[82]⟩] w (ShapePost rv.shR w) := by
  have HC := bl.hid (chain8 w (.cells #[.slice (some ⟨w.heap.size + 1 + 1 + 1 + 1 + 1 + 1 + 1, 0, none⟩) 3 3, .bool true, .int .i64 25, .int .i64 0, .int .i64 0, .int .i64 0] 135) (.cells #[.int .i64 0, .int .i64 5, .int .i64 7] 156) (.cells #[.int .i64 0, .int .i64 5, .int .i64 15] 156) (.cells #[.int .i64 0, .int .i64 5, .int .i64 20] 156) (.cells #[.func (.func 110) #[] #[], .slice (some ⟨w.heap.size + 1, 0, none⟩) 1 1] 159) (.cells #[.func (.func 111) #[] #[], .slice (some ⟨w.heap.size + 1 + 1, 0, none⟩) 1 1] 159) (.cells #[.func (.func 112) #[] #[], .slice (some ⟨w.heap.size + 1 + 1 + 1, 0, none⟩) 1 1] 159) (.cells #[.func (.func 110) #[] #[], .slice (some ⟨w.heap.size + 1, 0, none⟩) 1 1, .func (.func 111) #[] #[], .slice (some ⟨w.heap.size + 1 + 1, 0, none⟩) 1 1, .func (.func 112) #[] #[], .slice (some ⟨w.heap.size + 1 + 1 + 1, 0, none⟩) 1 1] 159))
  go_enter Tryz.func92, Tryz.ntmps92
  go_wp2
  generalize ((((((((w.alloc (.cells #[.slice (some ⟨w.heap.size + 1 + 1 + 1 + 1 + 1 + 1 + 1, 0, none⟩) 3 3, .bool true, .int .i64 25, .int .i64 0, .int .i64 0, .int .i64 0] 135)).alloc (.cells #[.int .i64 0, .int .i64 5, .int .i64 7] 156)).alloc (.cells #[.int .i64 0, .int .i64 5, .int .i64 15] 156)).alloc (.cells #[.int .i64 0, .int .i64 5, .int .i64 20] 156)).alloc (.cells #[.func (.func 110) #[] #[], .slice (some ⟨w.heap.size + 1, 0, none⟩) 1 1] 159)).alloc (.cells #[.func (.func 111) #[] #[], .slice (some ⟨w.heap.size + 1 + 1, 0, none⟩) 1 1] 159)).alloc (.cells #[.func (.func 112) #[] #[], .slice (some ⟨w.heap.size + 1 + 1 + 1, 0, none⟩) 1 1] 159)).alloc (.cells #[.func (.func 110) #[] #[], .slice (some ⟨w.heap.size + 1, 0, none⟩) 1 1, .func (.func 111) #[] #[], .slice (some ⟨w.heap.size + 1 + 1, 0, none⟩) 1 1, .func (.func 112) #[] #[], .slice (some ⟨w.heap.size + 1 + 1 + 1, 0, none⟩) 1 1] 159)) = W at *
  obtain ⟨h0, h1, h2, h3, h4, h5, h6, h7, hb⟩ := HC.out
  refine bodyPost_ret (results_cell_row rfl _ _ w.heap.size 135 _ (0, 0) _ rfl h0 Tryz.underlying135 rfl shape_info) rfl ?_
  exact ⟨_, w.heap.size + 1 + 1 + 1 + 1 + 1 + 1 + 1, fun _ => rfl, rfl, ⟨⟨w.heap.size + 1, (cell_of_row _ _ _ _ _ _ h7).trans rfl, (cell_of_row _ _ _ _ _ _ h7).trans rfl, ⟨(cell_of_row _ _ _ _ _ _ h1).trans rfl, (cell_of_row _ _ _ _ _ _ h1).trans rfl, (cell_of_row _ _ _ _ _ _ h1).trans rfl⟩, trivial⟩, ⟨w.heap.size + 1 + 1, (cell_of_row _ _ _ _ _ _ h7).trans rfl, (cell_of_row _ _ _ _ _ _ h7).trans rfl, ⟨(cell_of_row _ _ _ _ _ _ h2).trans rfl, (cell_of_row _ _ _ _ _ _ h2).trans rfl, (cell_of_row _ _ _ _ _ _ h2).trans rfl⟩, trivial⟩, ⟨w.heap.size + 1 + 1 + 1, (cell_of_row _ _ _ _ _ _ h7).trans rfl, (cell_of_row _ _ _ _ _ _ h7).trans rfl, ⟨(cell_of_row _ _ _ _ _ _ h3).trans rfl, (cell_of_row _ _ _ _ _ _ h3).trans rfl, (cell_of_row _ _ _ _ _ _ h3).trans rfl⟩, trivial⟩, trivial⟩, hb⟩
set_option maxRecDepth 100000 in
set_option maxHeartbeats 1600000 in
theorem shaped_E (w : World) : Calls Tryz.prog 92 #[.string ⟨#[69]⟩] w (ShapePost rv.shE w) := by
  have HF := bl.hid (first_of w)
  go_enter Tryz.func92, Tryz.ntmps92
  go_wp2
  generalize (((((((w.alloc (.cells #[.slice none 0 0, .bool false, .int .i64 0, .int .i64 0, .int .i64 0, .int .i64 0] 135)).alloc (.cells #[.int .i64 0, .int .i64 5, .int .i64 7] 156)).alloc (.cells #[.int .i64 0, .int .i64 5, .int .i64 15] 156)).alloc (.cells #[.int .i64 0, .int .i64 5, .int .i64 20] 156)).alloc (.cells #[.func (.func 110) #[] #[], .slice (some ⟨w.heap.size + 1, 0, none⟩) 1 1] 159)).alloc (.cells #[.func (.func 111) #[] #[], .slice (some ⟨w.heap.size + 1 + 1, 0, none⟩) 1 1] 159)).alloc (.cells #[.func (.func 112) #[] #[], .slice (some ⟨w.heap.size + 1 + 1 + 1, 0, none⟩) 1 1] 159)) = W at *
  refine bodyPost_ret (results_cell_row rfl _ _ w.heap.size 135 _ (0, 0) _ rfl HF.out.b0 Tryz.underlying135 rfl shape_info) rfl ?_
  exact ⟨none, 0, fun h => absurd h (by decide), rfl, trivial, HF.out.below⟩
end Go.Proofs.YtjjkocklpcdbkaaGreat
namespace Go.Proofs.YtjjkocklpcdbkaaGreat
open Go.RowKit
set_option linter.unusedVariables false
set_option maxRecDepth 100000

theorem PiecesAt.keep {w w' : World} {P : Nat} (hb : Below w.heap.size w w') : ∀ (ps : List (Int × Int × Int)) (j : Nat), PiecesAt w P j ps → PiecesAt w' P j ps
  | [], _, _ => trivial
  | p :: r, j, h => ⟨⟨(hb.cell (p := ⟨P, j * 3, none⟩) (block_lt_of_cell h.1.1)).trans h.1.1, (hb.cell (p := ⟨P, j * 3 + 1, none⟩) (block_lt_of_cell h.1.2.1)).trans h.1.2.1, (hb.cell (p := ⟨P, j * 3 + 2, none⟩) (block_lt_of_cell h.1.2.2)).trans h.1.2.2⟩, PiecesAt.keep hb r (j + 1) h.2⟩
theorem FldAt.keep {w w' : World} {F i : Nat} {f : rv.Fld} (hb : Below w.heap.size w w') (h : FldAt w F i f) : FldAt w' F i f := by
  obtain ⟨P, h1, h2, h3⟩ := h
  exact ⟨P, (hb.cell (p := ⟨F, i * 2, none⟩) (block_lt_of_cell h1)).trans h1, (hb.cell (p := ⟨F, i * 2 + 1, none⟩) (block_lt_of_cell h2)).trans h2, h3.keep hb⟩
theorem FldsAt.keep {w w' : World} {F : Nat} (hb : Below w.heap.size w w') : ∀ (fs : List rv.Fld) (i : Nat), FldsAt w F i fs → FldsAt w' F i fs
  | [], _, _ => trivial
  | f :: r, i, h => ⟨h.1.keep hb, FldsAt.keep hb r (i + 1) h.2⟩
/-- an instruction lies in block X -/
structure RvAt (w : World) (X : Nat) (op rd rs1 rs2 im : Int) : Prop where
  c0 : w.cell? ⟨X, 0, none⟩ = some (.int .i64 op)
  c1 : w.cell? ⟨X, 1, none⟩ = some (.int .i64 rd)
  c2 : w.cell? ⟨X, 2, none⟩ = some (.int .i64 rs1)
  c3 : w.cell? ⟨X, 3, none⟩ = some (.int .i64 rs2)
  c4 : w.cell? ⟨X, 4, none⟩ = some (.int .i64 im)
theorem RvAt.keep {w w' : World} {X : Nat} {op rd rs1 rs2 im : Int} (h : RvAt w X op rd rs1 rs2 im) (hb : Below w.heap.size w w') : RvAt w' X op rd rs1 rs2 im :=
  ⟨(hb.cell (p := ⟨X, 0, none⟩) (block_lt_of_cell h.c0)).trans h.c0, (hb.cell (p := ⟨X, 1, none⟩) (block_lt_of_cell h.c1)).trans h.c1, (hb.cell (p := ⟨X, 2, none⟩) (block_lt_of_cell h.c2)).trans h.c2, (hb.cell (p := ⟨X, 3, none⟩) (block_lt_of_cell h.c3)).trans h.c3, (hb.cell (p := ⟨X, 4, none⟩) (block_lt_of_cell h.c4)).trans h.c4⟩
/-- what a loop over the fields reads: the instruction's box, the fields and their pieces -/
structure LoopAt (w : World) (X F : Nat) (op rd rs1 rs2 im : Int) (fs : List rv.Fld) : Prop where
  x : RvAt w X op rd rs1 rs2 im
  f : FldsAt w F 0 fs
theorem LoopAt.keep {w w' : World} {X F : Nat} {op rd rs1 rs2 im : Int} {fs : List rv.Fld} (h : LoopAt w X F op rd rs1 rs2 im fs) (hb : Below w.heap.size w w') : LoopAt w' X F op rd rs1 rs2 im fs := ⟨h.x.keep hb, h.f.keep hb⟩
/-- two boxes that a call lays first are there behind a callee that keeps old memory -/
theorem two_boxes {w w1 : World} {o0 o1 : Obj} (hb : Below ((w.alloc o0).alloc o1).heap.size ((w.alloc o0).alloc o1) w1) : w1.heap[w.heap.size]? = some o0 ∧ w1.heap[w.heap.size + 1]? = some o1 ∧ Below w.heap.size w w1 ∧ w.heap.size + 2 ≤ w1.heap.size := by
  have s1 : (w.alloc o0).heap.size = w.heap.size + 1 := World.size_alloc _ _
  have s2 : ((w.alloc o0).alloc o1).heap.size = w.heap.size + 1 + 1 := by rw [World.size_alloc, s1]
  have hs := hb.size
  refine ⟨?_, ?_, (((Below.refl _ _).alloc (Nat.le_refl _) o0).alloc (by omega) o1).trans (hb.mono (by omega)), by omega⟩
  · rw [hb.block _ (by omega), heap_alloc_old _ _ (by omega), heap_alloc_new]
  · rw [hb.block _ (by omega), ← s1, heap_alloc_new]
theorem RvAt.of_box {w : World} {X : Nat} {op rd rs1 rs2 im : Int} {t : TypeId} (h : w.heap[X]? = some (.cells #[.int .i64 op, .int .i64 rd, .int .i64 rs1, .int .i64 rs2, .int .i64 im] t (0, 0))) : RvAt w X op rd rs1 rs2 im :=
  ⟨(cell_of_row _ _ _ _ _ _ h).trans rfl, (cell_of_row _ _ _ _ _ _ h).trans rfl, (cell_of_row _ _ _ _ _ _ h).trans rfl, (cell_of_row _ _ _ _ _ _ h).trans rfl, (cell_of_row _ _ _ _ _ _ h).trans rfl⟩
end Go.Proofs.YtjjkocklpcdbkaaGreat
namespace Go.Proofs.YtjjkocklpcdbkaaGreat
open Go.RowKit
set_option linter.unusedVariables false
set_option maxRecDepth 100000

namespace rv
def letter (f : ByteArray) : Nat := (f.data.toList.headD 0).toNat
/-- the shape of a form's letter -/
def shL : Nat → Shape
  | 82 => shR
  | 73 => shI
  | 88 => shX
  | 89 => shY
  | 83 => shS
  | 66 => shB
  | 85 => shU
  | 74 => shJ
  | _ => shE
/-- the shape of an operation -/
def sh (k : Nat) : Shape := shL (letter (row k).form)
/-- the form's letter of an operation -/
def lt (k : Nat) : Nat := letter (row k).form
theorem form_cases : ∀ k, k < 64 → 1 ≤ k → (row k).form = ⟨#[82]⟩ ∨ (row k).form = ⟨#[73]⟩ ∨ (row k).form = ⟨#[88]⟩ ∨ (row k).form = ⟨#[89]⟩ ∨ (row k).form = ⟨#[83]⟩ ∨ (row k).form = ⟨#[66]⟩ ∨ (row k).form = ⟨#[85]⟩ ∨ (row k).form = ⟨#[74]⟩ ∨ (row k).form = ⟨#[69]⟩ := by decide +kernel
/-- what all shapes have in common -/
structure Good (s : Shape) : Prop where
  n : s.fs.length ≤ 3
  k : ∀ f ∈ s.fs, f.k = 1 ∨ f.k = 2 ∨ f.k = 3 ∨ f.k = 4
  p : ∀ f ∈ s.fs, f.ps.length ≤ 4 ∧ 0 < f.ps.length ∧ ∀ q ∈ f.ps, (0 ≤ q.1 ∧ q.1 ≤ 20) ∧ (1 ≤ q.2.1 ∧ q.2.1 ≤ 20) ∧ (0 ≤ q.2.2 ∧ q.2.2 ≤ 31) ∧ q.1 + q.2.1 ≤ 21
  st : s.step = 0 ∨ s.step = 1 ∨ s.step = 2
  lo : -1048576 ≤ s.low ∧ s.low ≤ 0
  hi : 0 ≤ s.high ∧ s.high ≤ 1048574
instance (s : Shape) : Decidable (s.step = 0 ∨ s.step = 1 ∨ s.step = 2) := inferInstance
theorem good (k : Nat) (h1 : k < 64) (h2 : 1 ≤ k) : Good (sh k) := by
  unfold sh
  rcases form_cases k h1 h2 with h | h | h | h | h | h | h | h | h <;> rw [h] <;> exact ⟨by decide, by decide, by decide, by decide, by decide, by decide⟩
end rv
theorem shaped_of (k : Nat) (h1 : k < 64) (h2 : 1 ≤ k) (w : World) : Calls Tryz.prog 92 #[.string (rv.row k).form] w (ShapePost (rv.sh k) w) := by
  unfold rv.sh
  rcases rv.form_cases k h1 h2 with h | h | h | h | h | h | h | h | h <;> rw [h]
  · exact shaped_R w
  · exact shaped_I w
  · exact shaped_X w
  · exact shaped_Y w
  · exact shaped_S w
  · exact shaped_B w
  · exact shaped_U w
  · exact shaped_J w
  · exact shaped_E w
/-- the i-th of the fields -/
theorem FldsAt.at {w : World} {F : Nat} : ∀ (fs : List rv.Fld) (i j : Nat) (f : rv.Fld), FldsAt w F i fs → fs[j]? = some f → FldAt w F (i + j) f
  | [], _, _, _, _, h => by simp at h
  | g :: r, i, 0, f, h, e => by
    simp at e
    rw [← e]
    exact h.1
  | g :: r, i, j + 1, f, h, e => by
    have := FldsAt.at r (i + 1) j f h.2 (by simpa using e)
    rwa [show i + 1 + j = i + (j + 1) by omega] at this
theorem PiecesAt.at {w : World} {P : Nat} : ∀ (ps : List (Int × Int × Int)) (i j : Nat) (p : Int × Int × Int), PiecesAt w P i ps → ps[j]? = some p → w.cell? ⟨P, (i + j) * 3, none⟩ = some (.int .i64 p.1) ∧ w.cell? ⟨P, (i + j) * 3 + 1, none⟩ = some (.int .i64 p.2.1) ∧ w.cell? ⟨P, (i + j) * 3 + 2, none⟩ = some (.int .i64 p.2.2)
  | [], _, _, _, _, h => by simp at h
  | g :: r, i, 0, f, h, e => by
    simp at e
    rw [← e]
    exact h.1
  | g :: r, i, j + 1, f, h, e => by
    have := PiecesAt.at r (i + 1) j f h.2 (by simpa using e)
    rwa [show i + 1 + j = i + (j + 1) by omega] at this
end Go.Proofs.YtjjkocklpcdbkaaGreat
namespace Go.Proofs.YtjjkocklpcdbkaaGreat
open Go.RowKit
set_option linter.unusedVariables false
set_option maxRecDepth 100000
/-- w' is w, but for block X and new blocks -/
structure kt.But (X : Nat) (w w' : World) : Prop where
  os : w'.os = w.os
  tape : w'.tape = w.tape
  output : w'.output = w.output
  size : w.heap.size ≤ w'.heap.size
  block : ∀ k, k ≠ X → k < w.heap.size → w'.heap[k]? = w.heap[k]?
theorem kt.But.refl (X : Nat) (w : World) : kt.But X w w := ⟨rfl, rfl, rfl, Nat.le_refl _, fun _ _ _ => rfl⟩
theorem kt.But.trans {X : Nat} {a b c : World} (h : kt.But X a b) (k : kt.But X b c) : kt.But X a c :=
  ⟨k.os.trans h.os, k.tape.trans h.tape, k.output.trans h.output, Nat.le_trans h.size k.size, fun i hx hi => (k.block i hx (Nat.lt_of_lt_of_le hi h.size)).trans (h.block i hx hi)⟩
theorem kt.But.alloc {X : Nat} {a w : World} (h : kt.But X a w) (o : Obj) : kt.But X a (w.alloc o) :=
  h.trans ⟨rfl, rfl, rfl, by simp, fun k _ hk => Below.heap_alloc _ _ _ hk⟩
theorem kt.But.setCell {X : Nat} {a w : World} (h : kt.But X a w) (i : Nat) (u : Value) : kt.But X a (w.setCell ⟨X, i, none⟩ u) :=
  h.trans ⟨rfl, rfl, rfl, by simp [World.setCell], fun k hx hk => Below.heap_setCell _ _ _ _ hx⟩
theorem kt.But.drewN {X : Nat} {a w : World} (h : kt.But X a w) (n : Nat) : kt.But X a (w.drewN n) := ⟨h.os, h.tape, h.output, h.size, h.block⟩
theorem kt.But.cell {X : Nat} {w w' : World} (h : kt.But X w w') {b o : Nat} {v : Value} (hc : w.cell? ⟨b, o, none⟩ = some v) (hb : b ≠ X) : w'.cell? ⟨b, o, none⟩ = some v :=
  (World.cell?_of_block (w := w) (a := ⟨b, o, none⟩) (h.block b hb (block_lt_of_cell hc))).trans hc
theorem kt.But.below {X B : Nat} {a w w' : World} (h : kt.But X w w') (hX : B ≤ X) (hB : B ≤ w.heap.size) (hb : Below B a w) : Below B a w' :=
  hb.trans ⟨h.os, h.tape, h.output, h.size, fun k hk => h.block k (by omega) (by omega)⟩
/-- a field lies in block F at place i, and its pieces in a block that is not X -/
def FldX (w : World) (X F i : Nat) (f : rv.Fld) : Prop :=
  F ≠ X ∧ ∃ P, P ≠ X ∧ w.cell? ⟨F, i * 2, none⟩ = some (.func (.func (fnOf f.k)) #[] #[]) ∧ w.cell? ⟨F, i * 2 + 1, none⟩ = some (.slice (some ⟨P, 0, none⟩) f.ps.length f.ps.length) ∧
    ∀ m p, f.ps[m]? = some p → w.cell? ⟨P, m * 3, none⟩ = some (.int .i64 p.1) ∧ w.cell? ⟨P, m * 3 + 1, none⟩ = some (.int .i64 p.2.1) ∧ w.cell? ⟨P, m * 3 + 2, none⟩ = some (.int .i64 p.2.2)
def FldsX (w : World) (X F : Nat) (fs : List rv.Fld) : Prop := ∀ (j : Nat) (f : rv.Fld), fs[j]? = some f → FldX w X F j f
theorem FldX.keep {w w' : World} {X F i : Nat} {f : rv.Fld} (hb : kt.But X w w') (h : FldX w X F i f) : FldX w' X F i f := by
  obtain ⟨hF, P, hP, h1, h2, h3⟩ := h
  exact ⟨hF, P, hP, hb.cell h1 hF, hb.cell h2 hF, fun m p hm => ⟨hb.cell (h3 m p hm).1 hP, hb.cell (h3 m p hm).2.1 hP, hb.cell (h3 m p hm).2.2 hP⟩⟩
theorem FldsX.keep {w w' : World} {X F : Nat} {fs : List rv.Fld} (hb : kt.But X w w') (h : FldsX w X F fs) : FldsX w' X F fs := fun j f hf => (h j f hf).keep hb
theorem FldsX.of {w : World} {X F : Nat} {s : rv.Shape} {op : Int} (h : FldsAt w F 0 s.fs) (hg : rv.Good s)
    (h0 : w.cell? ⟨X, 0, none⟩ = some (.int .i64 op)) (h1 : w.cell? ⟨X, 1, none⟩ = some (.int .i64 0)) : FldsX w X F s.fs := by
  intro j f hf
  obtain ⟨P, f0, f1, p⟩ := FldsAt.at _ _ _ _ h hf
  rw [Nat.zero_add] at f0 f1
  obtain ⟨-, hps, hq⟩ := hg.p f (List.mem_of_getElem? hf)
  obtain ⟨q, hq0⟩ : ∃ q, f.ps[0]? = some q := ⟨_, List.getElem?_eq_getElem hps⟩
  have hP := (PiecesAt.at f.ps 0 0 q p hq0).2.1
  simp at hP
  refine ⟨?_, P, ?_, f0, f1, fun m r hm => by have := PiecesAt.at f.ps 0 m r p hm; rwa [Nat.zero_add] at this⟩
  · rintro rfl
    obtain ⟨G, g0, -⟩ := FldsAt.at (F := F) s.fs 0 0 (s.fs[0]'(by have := (List.getElem?_eq_some_iff.mp hf).1; omega)) h (List.getElem?_eq_getElem _)
    simp only [Nat.zero_add, Nat.zero_mul] at g0
    rw [h0] at g0
    cases g0
  · rintro rfl
    rw [h1] at hP
    have := (hq q (List.mem_of_getElem? hq0)).2.1.1
    have e : (0 : Int) = q.2.1 := by injection hP with hP; injection hP
    omega
/-- three boxes that a call lays first are there behind a callee that keeps old memory -/
theorem three_boxes {w w1 : World} {o0 o1 o2 : Obj} (hb : Below (((w.alloc o0).alloc o1).alloc o2).heap.size (((w.alloc o0).alloc o1).alloc o2) w1) : w1.heap[w.heap.size]? = some o0 ∧ w1.heap[w.heap.size + 1]? = some o1 ∧ w1.heap[w.heap.size + 1 + 1]? = some o2 ∧ Below w.heap.size w w1 ∧ w.heap.size + 1 + 1 + 1 ≤ w1.heap.size := by
  have s1 : (w.alloc o0).heap.size = w.heap.size + 1 := World.size_alloc _ _
  have s2 : ((w.alloc o0).alloc o1).heap.size = w.heap.size + 1 + 1 := by rw [World.size_alloc, s1]
  have s3 : (((w.alloc o0).alloc o1).alloc o2).heap.size = w.heap.size + 1 + 1 + 1 := by rw [World.size_alloc, s2]
  have hs := hb.size
  refine ⟨?_, ?_, ?_, ((((Below.refl _ _).alloc (Nat.le_refl _) o0).alloc (by omega) o1).alloc (by omega) o2).trans (hb.mono (by omega)), by omega⟩
  · rw [hb.block _ (by omega), heap_alloc_old _ _ (by omega), heap_alloc_old _ _ (by omega), heap_alloc_new]
  · rw [hb.block _ (by omega), heap_alloc_old _ _ (by omega), ← s1, heap_alloc_new]
  · rw [hb.block _ (by omega), ← s2, heap_alloc_new]
end Go.Proofs.YtjjkocklpcdbkaaGreat
namespace Go.Proofs.YtjjkocklpcdbkaaGreat
open Go.RowKit
set_option linter.unusedVariables false
set_option maxRecDepth 100000
namespace rv
/-- one more piece of a number -/
def stp (v x : Int) (p : Int × Int × Int) : Int := bits .or .i64 x (wrap64 (wrap64 (bits .and .u32 (v / 2 ^ p.2.2.toNat) ((2 ^ p.2.1.toNat - 1) % 4294967296)) * 2 ^ p.1.toNat))
/-- the number that pieces make -/
def acc (v : Int) (ps : List (Int × Int × Int)) : Int := ps.foldl (stp v) 0
def top (ps : List (Int × Int × Int)) : Int := ps.foldl (fun y p => max y (p.1 + p.2.1)) 0
theorem acc_snoc (v : Int) (ps : List (Int × Int × Int)) (m : Nat) (p : Int × Int × Int) (h : ps[m]? = some p) : acc v (ps.take (m + 1)) = stp v (acc v (ps.take m)) p := by
  unfold acc
  rw [List.take_add_one, h, List.foldl_append]
  rfl
theorem top_snoc (ps : List (Int × Int × Int)) (m : Nat) (p : Int × Int × Int) (h : ps[m]? = some p) : top (ps.take (m + 1)) = max (top (ps.take m)) (p.1 + p.2.1) := by
  unfold top
  rw [List.take_add_one, h, List.foldl_append]
  rfl
theorem piece_lt (v u k i : Nat) (h : k + i ≤ 21) : v / 2 ^ u % 2 ^ k * 2 ^ i < 2097152 := by
  have hm : v / 2 ^ u % 2 ^ k < 2 ^ k := Nat.mod_lt _ (Nat.two_pow_pos k)
  have h1 : v / 2 ^ u % 2 ^ k * 2 ^ i < 2 ^ k * 2 ^ i := Nat.mul_lt_mul_of_pos_right hm (Nat.two_pow_pos i)
  rw [← Nat.pow_add] at h1
  have h2 : 2 ^ (k + i) ≤ 2 ^ 21 := Nat.pow_le_pow_right (by omega) h
  exact Nat.lt_of_lt_of_le h1 h2
theorem mask_lt (k : Nat) (h : k ≤ 20) : 2 ^ k - 1 < 1048576 ∧ 0 < 2 ^ k := by
  have h2 : 2 ^ k ≤ 2 ^ 20 := Nat.pow_le_pow_right (by omega) h
  have h3 := Nat.two_pow_pos k
  have e : (2 : Nat) ^ 20 = 1048576 := rfl
  rw [e] at h2
  omega
theorem mask_int (k : Nat) (h : k ≤ 20) : ((2 ^ k - 1) % 4294967296 : Int) = ((2 ^ k - 1 : Nat) : Int) := by
  obtain ⟨h1, h2⟩ := mask_lt k h
  have e : ((2 : Int) ^ k) = ((2 ^ k : Nat) : Int) := by simp
  rw [e]
  generalize 2 ^ k = q at *
  omega
/-- a piece, in natural numbers -/
theorem stp_nat (v x u k i : Nat) (hv : v < 4294967296) (hx : x < 2097152) (hk : k ≤ 20) (hi : k + i ≤ 21) : stp v x (i, k, u) = ((x ||| v / 2 ^ u % 2 ^ k * 2 ^ i : Nat) : Int) := by
  unfold stp
  dsimp only
  simp only [Int.toNat_natCast]
  have h1 := piece_lt v u k i hi
  have h2 := piece_lt v u k 0 (by omega)
  rw [Nat.pow_zero, Nat.mul_one] at h2
  obtain ⟨m1, m2⟩ := mask_lt k hk
  have e2 : ((v : Int) / 2 ^ u) = ((v / 2 ^ u : Nat) : Int) := by simp
  have hm2 : 2 ^ k - 1 < 4294967296 := by clear h1 h2 e2 hv hx; omega
  have hv2 : v / 2 ^ u < 4294967296 := Nat.lt_of_le_of_lt (Nat.div_le_self _ _) hv
  rw [mask_int k hk, e2, u32_and_nat _ _ hv2 hm2, Nat.and_two_pow_sub_one_eq_mod]
  clear m1 m2 hm2 hv2 e2
  revert h1 h2
  generalize v / 2 ^ u % 2 ^ k = y
  intro h1 h2
  have w1 : wrap64 (y : Int) = y := IntWalk.wrap64_in _ (by clear h1; omega)
  have e3 : ((y : Int) * 2 ^ i) = ((y * 2 ^ i : Nat) : Int) := by simp
  rw [w1, e3]
  revert h1
  generalize y * 2 ^ i = z
  intro h1
  have w2 : wrap64 (z : Int) = z := IntWalk.wrap64_in _ (by omega)
  rw [w2, bl.i64_or_nat _ _ (by omega) (by omega)]
theorem stp_bd (v x : Int) (p : Int × Int × Int) (h0 : 0 ≤ v) (h1 : v < 4294967296) (x0 : 0 ≤ x) (x1 : x < 2097152) (hp : (0 ≤ p.1 ∧ p.1 ≤ 20) ∧ (1 ≤ p.2.1 ∧ p.2.1 ≤ 20) ∧ (0 ≤ p.2.2 ∧ p.2.2 ≤ 31) ∧ p.1 + p.2.1 ≤ 21) : 0 ≤ stp v x p ∧ stp v x p < 2097152 := by
  obtain ⟨p0, p1, p2⟩ := p
  dsimp only at hp
  obtain ⟨⟨a0, a1⟩, ⟨b0, b1⟩, ⟨c0, c1⟩, s⟩ := hp
  obtain ⟨i, rfl⟩ := Int.eq_ofNat_of_zero_le a0
  obtain ⟨k, rfl⟩ := Int.eq_ofNat_of_zero_le (by omega : 0 ≤ p1)
  obtain ⟨u, rfl⟩ := Int.eq_ofNat_of_zero_le c0
  obtain ⟨v, rfl⟩ := Int.eq_ofNat_of_zero_le h0
  obtain ⟨x, rfl⟩ := Int.eq_ofNat_of_zero_le x0
  rw [stp_nat v x u k i (by omega) (by omega) (by omega) (by omega)]
  have h := Nat.or_lt_two_pow (n := 21) (show x < 2 ^ 21 from by have e : (2 : Nat) ^ 21 = 2097152 := rfl; rw [e]; omega) (show v / 2 ^ u % 2 ^ k * 2 ^ i < 2 ^ 21 from piece_lt v u k i (by omega))
  have e : (2 : Nat) ^ 21 = 2097152 := rfl
  rw [e] at h
  generalize x ||| v / 2 ^ u % 2 ^ k * 2 ^ i = q at *
  omega
theorem acc_bd (v : Int) (h0 : 0 ≤ v) (h1 : v < 4294967296) (ps : List (Int × Int × Int)) (hp : ∀ p ∈ ps, (0 ≤ p.1 ∧ p.1 ≤ 20) ∧ (1 ≤ p.2.1 ∧ p.2.1 ≤ 20) ∧ (0 ≤ p.2.2 ∧ p.2.2 ≤ 31) ∧ p.1 + p.2.1 ≤ 21) :
    ∀ x : Int, 0 ≤ x → x < 2097152 → 0 ≤ ps.foldl (stp v) x ∧ ps.foldl (stp v) x < 2097152 := by
  induction ps with
  | nil => exact fun x a b => ⟨a, b⟩
  | cons p r ih =>
    intro x a b
    have := stp_bd v x p h0 h1 a b (hp p (by simp))
    exact ih (fun q hq => hp q (by simp [hq])) _ this.1 this.2
theorem top_bd (ps : List (Int × Int × Int)) (hp : ∀ p ∈ ps, (0 ≤ p.1 ∧ p.1 ≤ 20) ∧ (1 ≤ p.2.1 ∧ p.2.1 ≤ 20) ∧ (0 ≤ p.2.2 ∧ p.2.2 ≤ 31) ∧ p.1 + p.2.1 ≤ 21) :
    ∀ x : Int, 0 ≤ x → x ≤ 21 → x ≤ ps.foldl (fun y p => max y (p.1 + p.2.1)) x ∧ ps.foldl (fun y p => max y (p.1 + p.2.1)) x ≤ 21 := by
  induction ps with
  | nil => exact fun x a b => ⟨Int.le_refl _, b⟩
  | cons p r ih =>
    intro x a b
    have hq := hp p (by simp)
    have := ih (fun q hq => hp q (by simp [hq])) (max x (p.1 + p.2.1)) (by omega) (by omega)
    rw [List.foldl_cons]
    omega
theorem top_pos (p : Int × Int × Int) (r : List (Int × Int × Int)) (hp : ∀ q ∈ p :: r, (0 ≤ q.1 ∧ q.1 ≤ 20) ∧ (1 ≤ q.2.1 ∧ q.2.1 ≤ 20) ∧ (0 ≤ q.2.2 ∧ q.2.2 ≤ 31) ∧ q.1 + q.2.1 ≤ 21) : 1 ≤ top (p :: r) ∧ top (p :: r) ≤ 21 := by
  have hq := hp p (by simp)
  have := top_bd r (fun q hq => hp q (by simp [hq])) (max 0 (p.1 + p.2.1)) (by omega) (by omega)
  unfold top
  rw [List.foldl_cons]
  omega
/-- what a field of a word is -/
def fin (v lo : Int) (f : Fld) : Int := if f.k = 4 ∧ lo < 0 ∧ acc v f.ps / 2 ^ (top f.ps - 1).toNat = 1 then wrap64 (acc v f.ps - wrap64 (2 ^ (top f.ps).toNat)) else acc v f.ps
/-- an instruction's numbers, out of fields -/
def nums (v lo : Int) (fs : List Fld) : Nat → Int := fs.foldl (fun g f k => if k = f.k then fin v lo f else g k) (fun _ => 0)
theorem nums_snoc (v lo : Int) (fs : List Fld) (j : Nat) (f : Fld) (h : fs[j]? = some f) (k : Nat) : nums v lo (fs.take (j + 1)) k = if k = f.k then fin v lo f else nums v lo (fs.take j) k := by
  unfold nums
  rw [List.take_add_one, h, List.foldl_append]
  rfl
end rv
def readRow (op : Int) (g : Nat → Int) : Array Value := #[.int .i64 op, .int .i64 (g 1), .int .i64 (g 2), .int .i64 (g 3), .int .i64 (g 4)]
theorem readRow_succ (op v lo : Int) (fs : List rv.Fld) (j : Nat) (f : rv.Fld) (h : fs[j]? = some f) (hk : f.k = 1 ∨ f.k = 2 ∨ f.k = 3 ∨ f.k = 4) :
    readRow op (rv.nums v lo (fs.take (j + 1))) = (readRow op (rv.nums v lo (fs.take j))).setIfInBounds f.k (.int .i64 (rv.fin v lo f)) := by
  unfold readRow
  rw [rv.nums_snoc v lo fs j f h, rv.nums_snoc v lo fs j f h, rv.nums_snoc v lo fs j f h, rv.nums_snoc v lo fs j f h]
  rcases hk with hk | hk | hk | hk <;> simp [hk]
end Go.Proofs.YtjjkocklpcdbkaaGreat
namespace Go.Proofs.YtjjkocklpcdbkaaGreat
open Go.RowKit
set_option linter.unusedVariables false
set_option maxRecDepth 100000
set_option maxRecDepth 100000 in
set_option maxHeartbeats 3200000 in
theorem word_E (nm : ByteArray) (a b c op rd rs1 rs2 im : Int) (w : World) :
    Calls Tryz.prog 95 #[.agg #[.string nm, .string ⟨#[69]⟩, .int .u32 a, .int .u32 b, .int .u32 c], .agg #[.int .i64 op, .int .i64 rd, .int .i64 rs1, .int .i64 rs2, .int .i64 im]] w fun e w' => e = .returned (.int .u32 a) ∧ Below w.heap.size w w' := by
  go_enter Tryz.func95, Tryz.ntmps95
  go_wp2_with fail
  refine (shaped_E _).mono ?_
  rintro e w1 ⟨ad, F, hF, rfl, hf, hb⟩
  obtain ⟨r0, r1, hb1, hs1⟩ := two_boxes hb
  have x0 : w1.cell? ⟨w.heap.size, 2, none⟩ = some (.int .u32 a) := (cell_of_row _ _ _ _ _ _ r0).trans rfl
  have x1 : w1.cell? ⟨w.heap.size, 3, none⟩ = some (.int .u32 b) := (cell_of_row _ _ _ _ _ _ r0).trans rfl
  have x2 : w1.cell? ⟨w.heap.size, 4, none⟩ = some (.int .u32 c) := (cell_of_row _ _ _ _ _ _ r0).trans rfl
  have k0 : w.heap.size < w1.heap.size := by omega
  have HB : Hid (∀ o : Obj, Below w.heap.size w (w1.alloc o)) := bl.hid fun o => hb1.alloc hb1.size o
  clear r0 r1 hb hb1 hf
  simp only [rv.shE, List.length_nil]
  go_wp2
  refine wp_loop_rounds 1 ?_
  rw [rounds_succ]
  go_wp2
  go_ret
  exact ⟨rfl, HB.out _⟩
set_option maxRecDepth 100000 in
set_option maxHeartbeats 3200000 in
theorem check_E (nm : ByteArray) (a b c op rd rs1 rs2 im : Int) (w : World)
    (HA : Hid (∀ w, Calls Tryz.prog 109 #[.int .i64 op] w fun e w' => e = .returned (.tuple #[.agg #[.string nm, .string ⟨#[69]⟩, .int .u32 a, .int .u32 b, .int .u32 c], .bool true]) ∧ Below w.heap.size w w')) :
    Calls Tryz.prog 94 #[.agg #[.int .i64 op, .int .i64 rd, .int .i64 rs1, .int .i64 rs2, .int .i64 im]] w fun e w' => e = .returned (.int .i64 (if rd = 0 ∧ rs1 = 0 ∧ rs2 = 0 ∧ im = 0 then 0 else 2)) ∧ Below w.heap.size w w' := by
  obtain ⟨R, hR⟩ : ∃ R : Int, (if rd = 0 ∧ rs1 = 0 ∧ rs2 = 0 ∧ im = 0 then 0 else 2) = R := ⟨_, rfl⟩
  rw [hR]
  have HRes := bl.hid hR
  clear hR
  go_enter Tryz.func94, Tryz.ntmps94
  go_wp2_with fail
  refine (HA.out _).mono ?_
  rintro e w1 ⟨rfl, hb⟩
  have r0 : w1.heap[w.heap.size]? = some (.cells #[.int .i64 op, .int .i64 rd, .int .i64 rs1, .int .i64 rs2, .int .i64 im] 71) := by
    rw [hb.block _ (by rw [World.size_alloc]; omega), heap_alloc_new]
  have hb1 : Below w.heap.size w w1 := ((Below.refl _ _).alloc (Nat.le_refl _) _).trans (hb.mono (by rw [World.size_alloc]; omega))
  have hs1 : w.heap.size + 1 ≤ w1.heap.size := by have := hb.size; rw [World.size_alloc] at this; exact this
  clear hb
  go_wp2_with fail
  refine (shaped_E _).mono ?_
  rintro e w2 ⟨ad, F, hF, rfl, hf, hb2⟩
  have hs2 := hb2.size
  have sA : ∀ o : Obj, (w1.alloc o).heap.size = w1.heap.size + 1 := fun o => World.size_alloc _ _
  rw [sA] at hs2
  have r2 : w2.heap[w.heap.size]? = some (.cells #[.int .i64 op, .int .i64 rd, .int .i64 rs1, .int .i64 rs2, .int .i64 im] 71) := by
    rw [hb2.block _ (by rw [sA]; omega), heap_alloc_old _ _ (by omega)]
    exact r0
  obtain ⟨c0, c1, c2, c3, c4⟩ := RvAt.of_box r2
  have hb3 : Below w.heap.size w w2 := (hb1.alloc hb1.size _).trans (hb2.mono (by rw [sA]; omega))
  have HB3 := bl.hid hb3
  clear sA r0 hf hb1 hb2 hb3 r2
  simp only [rv.shE, List.length_nil]
  have k0 : w.heap.size < w2.heap.size := by omega
  have HBE : Hid (∀ o1 o2 : Obj, Below w.heap.size w ((w2.alloc o1).alloc o2)) := bl.hid fun o1 o2 => (HB3.out.alloc HB3.out.size o1).alloc (by rw [World.size_alloc]; omega) o2
  have HBE3 : Hid (∀ o1 o2 o3 : Obj, Below w.heap.size w (((w2.alloc o1).alloc o2).alloc o3)) := bl.hid fun o1 o2 o3 => (HBE.out o1 o2).alloc (HBE.out o1 o2).size o3
  by_cases hz : rd = 0 ∧ rs1 = 0 ∧ rs2 = 0 ∧ im = 0
  · have HR : Hid (R = 0) := bl.hid (by rw [← HRes.out, if_pos hz])
    obtain ⟨rfl, rfl, rfl, rfl⟩ := hz
    go_wp2
    refine wp_loop_rounds 1 ?_
    rw [rounds_succ]
    go_wp2
    refine wp_loop_rounds 4 ?_
    rw [rounds_succ]
    go_wp2
    rw [rounds_succ]
    go_wp2
    rw [rounds_succ]
    go_wp2
    rw [rounds_succ]
    go_wp2
    go_ret
    exact ⟨by rw [HR.out]; rfl, HBE3.out _ _ _⟩
  · have HR : Hid (R = 2) := bl.hid (by rw [← HRes.out, if_neg hz])
    go_wp2
    refine wp_loop_rounds 1 ?_
    rw [rounds_succ]
    go_wp2
    all_goals
      go_ret
      exact ⟨by rw [HR.out]; rfl, HBE.out _ _⟩
end Go.Proofs.YtjjkocklpcdbkaaGreat
