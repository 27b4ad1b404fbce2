/- Lines in memory. -/
import Derived.Test.YtbcflhpaafpndaaAsPlain
import Derived.Test.YtbcflhpaafpndaaKit
import Derived.Laws.Rows
namespace Go.Proofs.Ytbcflhpaafpndaa
open Go.RowKit
set_option linter.unusedVariables false
namespace kt
/-- a line lies at place o of block b -/
structure LnAt (w : World) (b o : Nat) (x : Ln) : Prop where
  c0 : w.cell? ⟨b, o, none⟩ = some (.int .i64 x.kind)
  c1 : w.cell? ⟨b, o + 1, none⟩ = some (.int .i64 x.label)
  c2 : w.cell? ⟨b, o + 2, none⟩ = some (.int .i64 x.op)
  c3 : w.cell? ⟨b, o + 3, none⟩ = some (.int .i64 x.rd)
  c4 : w.cell? ⟨b, o + 4, none⟩ = some (.int .i64 x.rs1)
  c5 : w.cell? ⟨b, o + 5, none⟩ = some (.int .i64 x.rs2)
  c6 : w.cell? ⟨b, o + 6, none⟩ = some (.int .i64 x.im)
def i64ok (n : Int) : Prop := -9223372036854775808 ≤ n ∧ n ≤ 9223372036854775807
/-- a line's numbers are numbers -/
structure LnOk (x : Ln) : Prop where
  kind : i64ok x.kind
  label : i64ok x.label
  op : i64ok x.op
  rd : i64ok x.rd
  rs1 : i64ok x.rs1
  rs2 : i64ok x.rs2
  im : i64ok x.im
/-- a slice of lines -/
structure Lines (w : World) (a : Option Addr) (n : Nat) (ls : Nat → Ln) : Prop where
  ok : ∀ i, i < n → LnOk (ls i)
  small : n * 56 ≤ 140737488351232
  at' : n = 0 ∨ ∃ b off, a = some ⟨b, off, none⟩ ∧ ∀ i, i < n → LnAt w b (off + i * 7) (ls i)
theorem LnAt.kept {w w' : World} {b o : Nat} {x : Ln} (h : LnAt w b o x) (hb : w'.heap[b]? = w.heap[b]?) : LnAt w' b o x := by
  have e : ∀ i, w'.cell? ⟨b, i, none⟩ = w.cell? ⟨b, i, none⟩ := fun i => World.cell?_of_block (w := w) (a := ⟨b, i, none⟩) hb
  exact ⟨(e _).trans h.c0, (e _).trans h.c1, (e _).trans h.c2, (e _).trans h.c3, (e _).trans h.c4, (e _).trans h.c5, (e _).trans h.c6⟩
theorem LnAt.lt {w : World} {b o : Nat} {x : Ln} (h : LnAt w b o x) : b < w.heap.size := block_lt_of_cell h.c0
theorem Lines.keptBy {w w' : World} {a : Option Addr} {n : Nat} {ls : Nat → Ln} (h : Lines w a n ls) (hb : ∀ b off, a = some ⟨b, off, none⟩ → 0 < n → w'.heap[b]? = w.heap[b]?) : Lines w' a n ls := by
  refine ⟨h.ok, h.small, ?_⟩
  rcases h.at' with h0 | ⟨b, off, e, hc⟩
  · exact .inl h0
  · by_cases h0 : n = 0
    · exact .inl h0
    · exact .inr ⟨b, off, e, fun i hi => (hc i hi).kept (hb b off e (by omega))⟩
theorem Lines.keep {w w' : World} {a : Option Addr} {n : Nat} {ls : Nat → Ln} (h : Lines w a n ls) (hb : Below w.heap.size w w') : Lines w' a n ls := by
  refine ⟨h.ok, h.small, ?_⟩
  rcases h.at' with h0 | ⟨b, off, e, hc⟩
  · exact .inl h0
  · exact .inr ⟨b, off, e, fun i hi => (hc i hi).kept (hb.block _ (hc i hi).lt)⟩
/-- the cells of a line, in a box of its own -/
def Ln.cells (x : Ln) : Array Value := #[.int .i64 x.kind, .int .i64 x.label, .int .i64 x.op, .int .i64 x.rd, .int .i64 x.rs1, .int .i64 x.rs2, .int .i64 x.im]
theorem LnAt.of_box {w : World} {b : Nat} {x : Ln} {t : TypeId} (h : w.heap[b]? = some (.cells x.cells t (0, 0))) : LnAt w b 0 x :=
  ⟨(cell_of_row _ _ _ _ _ _ h).trans rfl, (cell_of_row _ _ _ _ _ _ h).trans rfl, (cell_of_row _ _ _ _ _ _ h).trans rfl, (cell_of_row _ _ _ _ _ _ h).trans rfl, (cell_of_row _ _ _ _ _ _ h).trans rfl, (cell_of_row _ _ _ _ _ _ h).trans rfl, (cell_of_row _ _ _ _ _ _ h).trans rfl⟩
/-- w' is w, but for some blocks and new ones -/
structure ButP (S : Nat → Prop) (w w' : World) : Prop where
  os : w'.os = w.os
  tape : w'.tape = w.tape
  output : w'.output = w.output
  size : w.heap.size ≤ w'.heap.size
  block : ∀ k, ¬ S k → k < w.heap.size → w'.heap[k]? = w.heap[k]?
theorem ButP.refl (S : Nat → Prop) (w : World) : ButP S w w := ⟨rfl, rfl, rfl, Nat.le_refl _, fun _ _ _ => rfl⟩
theorem ButP.trans {S : Nat → Prop} {a b c : World} (h : ButP S a b) (k : ButP S b c) : ButP S a c :=
  ⟨k.os.trans h.os, k.tape.trans h.tape, k.output.trans h.output, Nat.le_trans h.size k.size, fun i hx hi => (k.block i hx (Nat.lt_of_lt_of_le hi h.size)).trans (h.block i hx hi)⟩
theorem ButP.alloc {S : Nat → Prop} {a w : World} (h : ButP S a w) (o : Obj) : ButP S a (w.alloc o) :=
  h.trans ⟨rfl, rfl, rfl, by simp, fun k _ hk => Below.heap_alloc _ _ _ hk⟩
theorem ButP.setCell {S : Nat → Prop} {a w : World} (h : ButP S a w) {p : Addr} (hp : S p.block ∨ a.heap.size ≤ p.block) (u : Value) : ButP S a (w.setCell p u) :=
  ⟨h.os, h.tape, h.output, by simpa [World.setCell] using h.size, fun k hx hk => by
    rw [Below.heap_setCell _ _ _ _ (by intro e; subst e; rcases hp with q | q; exact hx q; omega)]
    exact h.block k hx hk⟩
theorem ButP.drewN {S : Nat → Prop} {a w : World} (h : ButP S a w) : ButP S a w.drew := ⟨h.os, h.tape, h.output, h.size, h.block⟩
theorem ButP.grown {S : Nat → Prop} {a w w' : World} {row : Option Nat} (h : ButP S a w) (hg : w.grownBy w' row) (hr : ∀ k, row = some k → S k ∨ a.heap.size ≤ k) : ButP S a w' :=
  ⟨hg.os.trans h.os, hg.tape.trans h.tape, hg.output.trans h.output, Nat.le_trans h.size hg.size, fun k hx hk => (hg.block k (Nat.lt_of_lt_of_le hk h.size) (fun e => by rcases hr k e.symm with q | q; exact hx q; omega)).trans (h.block k hx hk)⟩
theorem ButP.below {S : Nat → Prop} {B : Nat} {a w w' : World} (h : ButP S w w') (hS : ∀ k, S k → B ≤ k) (hB : B ≤ w.heap.size) (hb : Below B a w) : Below B a w' :=
  hb.trans ⟨h.os, h.tape, h.output, h.size, fun k hk => h.block k (fun s => by have := hS k s; omega) (by omega)⟩
theorem ButP.of_below {S : Nat → Prop} {w w' : World} (h : Below w.heap.size w w') : ButP S w w' := ⟨h.os, h.tape, h.output, h.size, fun k _ hk => h.block k hk⟩
theorem ButP.mono {S T : Nat → Prop} {w w' : World} (h : ButP S w w') (hs : ∀ k, S k → T k) : ButP T w w' := ⟨h.os, h.tape, h.output, h.size, fun k hk hl => h.block k (fun s => hk (hs k s)) hl⟩
theorem forget {P : Program} {c : Code} {a : Act} {w : World} {Q : Exit → Act → World → Prop} (X : World → Prop) (h : X w) (k : ∀ w', X w' → c.wp P Q a w') : c.wp P Q a w := k w h
end kt
end Go.Proofs.Ytbcflhpaafpndaa
