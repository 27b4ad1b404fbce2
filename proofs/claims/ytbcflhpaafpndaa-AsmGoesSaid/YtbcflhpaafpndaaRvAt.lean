/- What the loops over a form's fields read, kept while old memory stays. -/
import Derived.Test.YtbcflhpaafpndaaRvShapeR
namespace Go.Proofs.Ytbcflhpaafpndaa
open Go.RowKit
set_option linter.unusedVariables false

theorem PiecesAt.keep {w w' : World} {P : Nat} (hb : Below w.heap.size w w') : ∀ (ps : List (Int × Int × Int)) (j : Nat), PiecesAt w P j ps → PiecesAt w' P j ps
  | [], _, _ => trivial
  | p :: r, j, h => ⟨⟨(hb.cell (p := ⟨P, j * 3, none⟩) (block_lt_of_cell h.1.1)).trans h.1.1, (hb.cell (p := ⟨P, j * 3 + 1, none⟩) (block_lt_of_cell h.1.2.1)).trans h.1.2.1, (hb.cell (p := ⟨P, j * 3 + 2, none⟩) (block_lt_of_cell h.1.2.2)).trans h.1.2.2⟩, PiecesAt.keep hb r (j + 1) h.2⟩
theorem FldAt.keep {w w' : World} {F i : Nat} {f : rv.Fld} (hb : Below w.heap.size w w') (h : FldAt w F i f) : FldAt w' F i f := by
  obtain ⟨P, h1, h2, h3⟩ := h
  exact ⟨P, (hb.cell (p := ⟨F, i * 2, none⟩) (block_lt_of_cell h1)).trans h1, (hb.cell (p := ⟨F, i * 2 + 1, none⟩) (block_lt_of_cell h2)).trans h2, h3.keep hb⟩
theorem FldsAt.keep {w w' : World} {F : Nat} (hb : Below w.heap.size w w') : ∀ (fs : List rv.Fld) (i : Nat), FldsAt w F i fs → FldsAt w' F i fs
  | [], _, _ => trivial
  | f :: r, i, h => ⟨h.1.keep hb, FldsAt.keep hb r (i + 1) h.2⟩
/-- an instruction lies in block X -/
structure RvAt (w : World) (X : Nat) (op rd rs1 rs2 im : Int) : Prop where
  c0 : w.cell? ⟨X, 0, none⟩ = some (.int .i64 op)
  c1 : w.cell? ⟨X, 1, none⟩ = some (.int .i64 rd)
  c2 : w.cell? ⟨X, 2, none⟩ = some (.int .i64 rs1)
  c3 : w.cell? ⟨X, 3, none⟩ = some (.int .i64 rs2)
  c4 : w.cell? ⟨X, 4, none⟩ = some (.int .i64 im)
theorem RvAt.keep {w w' : World} {X : Nat} {op rd rs1 rs2 im : Int} (h : RvAt w X op rd rs1 rs2 im) (hb : Below w.heap.size w w') : RvAt w' X op rd rs1 rs2 im :=
  ⟨(hb.cell (p := ⟨X, 0, none⟩) (block_lt_of_cell h.c0)).trans h.c0, (hb.cell (p := ⟨X, 1, none⟩) (block_lt_of_cell h.c1)).trans h.c1, (hb.cell (p := ⟨X, 2, none⟩) (block_lt_of_cell h.c2)).trans h.c2, (hb.cell (p := ⟨X, 3, none⟩) (block_lt_of_cell h.c3)).trans h.c3, (hb.cell (p := ⟨X, 4, none⟩) (block_lt_of_cell h.c4)).trans h.c4⟩
/-- what a loop over the fields reads: the instruction's box, the fields and their pieces -/
structure LoopAt (w : World) (X F : Nat) (op rd rs1 rs2 im : Int) (fs : List rv.Fld) : Prop where
  x : RvAt w X op rd rs1 rs2 im
  f : FldsAt w F 0 fs
theorem LoopAt.keep {w w' : World} {X F : Nat} {op rd rs1 rs2 im : Int} {fs : List rv.Fld} (h : LoopAt w X F op rd rs1 rs2 im fs) (hb : Below w.heap.size w w') : LoopAt w' X F op rd rs1 rs2 im fs := ⟨h.x.keep hb, h.f.keep hb⟩
/-- two boxes that a call lays first are there behind a callee that keeps old memory -/
theorem two_boxes {w w1 : World} {o0 o1 : Obj} (hb : Below ((w.alloc o0).alloc o1).heap.size ((w.alloc o0).alloc o1) w1) : w1.heap[w.heap.size]? = some o0 ∧ w1.heap[w.heap.size + 1]? = some o1 ∧ Below w.heap.size w w1 ∧ w.heap.size + 2 ≤ w1.heap.size := by
  have s1 : (w.alloc o0).heap.size = w.heap.size + 1 := World.size_alloc _ _
  have s2 : ((w.alloc o0).alloc o1).heap.size = w.heap.size + 1 + 1 := by rw [World.size_alloc, s1]
  have hs := hb.size
  refine ⟨?_, ?_, (((Below.refl _ _).alloc (Nat.le_refl _) o0).alloc (by omega) o1).trans (hb.mono (by omega)), by omega⟩
  · rw [hb.block _ (by omega), heap_alloc_old _ _ (by omega), heap_alloc_new]
  · rw [hb.block _ (by omega), ← s1, heap_alloc_new]
theorem RvAt.of_box {w : World} {X : Nat} {op rd rs1 rs2 im : Int} {t : TypeId} (h : w.heap[X]? = some (.cells #[.int .i64 op, .int .i64 rd, .int .i64 rs1, .int .i64 rs2, .int .i64 im] t (0, 0))) : RvAt w X op rd rs1 rs2 im :=
  ⟨(cell_of_row _ _ _ _ _ _ h).trans rfl, (cell_of_row _ _ _ _ _ _ h).trans rfl, (cell_of_row _ _ _ _ _ _ h).trans rfl, (cell_of_row _ _ _ _ _ _ h).trans rfl, (cell_of_row _ _ _ _ _ _ h).trans rfl⟩
end Go.Proofs.Ytbcflhpaafpndaa
