/- Laws of this proof's own on whole rows of cells, over any program. No program in sight. -/
import Derived.WalkKit
import Derived.Deep.WholeRow
namespace Go.Proofs.YtjjkocklpcdbkaaGreat.kt
open Go.RowKit

variable {P : Program}

/-- a whole row is stored into the block that was made last -/
theorem wpList_store_row_new {ops : Array Oper} {rest : List Oper} {o : Oper} {a : Act} {w : World} {Q : Exit → Act → World → Prop} (hgd : o.guard = none) (ty : TypeId) (x v : Operand) (ho : o.op = .store ty x v) (hdst : o.dst = none)
    (c c' : Array Value) (hx : a.eval x = .pointer (some ⟨w.heap.size, 0, none⟩)) (hv : a.eval v = .agg c') (hi : (P.info? ty).map (·.size) = some c'.size) (hs : c.size = c'.size) (h1 : c'.all (·.oneCell') = true)
    (h : wpList P ops Q rest a (w.alloc (.cells c' ty))) : wpList P ops Q (o :: rest) a (w.alloc (.cells c ty)) :=
  wpList_plain hgd fun K hK => by
    unfold Oper.wp execOp
    simp only [ho, hx, hv, Sem.run_bind, run_storeAt_new w ty c c' hi hs h1, Result.andThen_ok, Sem.run_pure]
    have := hK _ _ h
    simpa [Oper.upon, Act.put, hdst] using this

theorem below_row {w : World} (o : Obj) : Below w.heap.size w (w.alloc o) := (Below.refl _ _).alloc (Nat.le_refl _) _
end Go.Proofs.YtjjkocklpcdbkaaGreat.kt
