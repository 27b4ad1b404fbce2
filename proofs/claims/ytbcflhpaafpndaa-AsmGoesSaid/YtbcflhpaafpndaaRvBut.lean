/- A world that has turned in one block alone; the fields of a form beside such a block. -/
import Derived.Test.YtbcflhpaafpndaaRvSh
import Derived.Deep.QuietTactic
namespace Go.Proofs.Ytbcflhpaafpndaa
open Go.RowKit
set_option linter.unusedVariables false
/-- w' is w, but for block X and new blocks -/
structure kt.But (X : Nat) (w w' : World) : Prop where
  os : w'.os = w.os
  tape : w'.tape = w.tape
  output : w'.output = w.output
  size : w.heap.size ≤ w'.heap.size
  block : ∀ k, k ≠ X → k < w.heap.size → w'.heap[k]? = w.heap[k]?
theorem kt.But.refl (X : Nat) (w : World) : kt.But X w w := ⟨rfl, rfl, rfl, Nat.le_refl _, fun _ _ _ => rfl⟩
theorem kt.But.trans {X : Nat} {a b c : World} (h : kt.But X a b) (k : kt.But X b c) : kt.But X a c :=
  ⟨k.os.trans h.os, k.tape.trans h.tape, k.output.trans h.output, Nat.le_trans h.size k.size, fun i hx hi => (k.block i hx (Nat.lt_of_lt_of_le hi h.size)).trans (h.block i hx hi)⟩
theorem kt.But.alloc {X : Nat} {a w : World} (h : kt.But X a w) (o : Obj) : kt.But X a (w.alloc o) :=
  h.trans ⟨rfl, rfl, rfl, by simp, fun k _ hk => Below.heap_alloc _ _ _ hk⟩
theorem kt.But.setCell {X : Nat} {a w : World} (h : kt.But X a w) (i : Nat) (u : Value) : kt.But X a (w.setCell ⟨X, i, none⟩ u) :=
  h.trans ⟨rfl, rfl, rfl, by simp [World.setCell], fun k hx hk => Below.heap_setCell _ _ _ _ hx⟩
theorem kt.But.drewN {X : Nat} {a w : World} (h : kt.But X a w) (n : Nat) : kt.But X a (w.drewN n) := ⟨h.os, h.tape, h.output, h.size, h.block⟩
theorem kt.But.cell {X : Nat} {w w' : World} (h : kt.But X w w') {b o : Nat} {v : Value} (hc : w.cell? ⟨b, o, none⟩ = some v) (hb : b ≠ X) : w'.cell? ⟨b, o, none⟩ = some v :=
  (World.cell?_of_block (w := w) (a := ⟨b, o, none⟩) (h.block b hb (block_lt_of_cell hc))).trans hc
theorem kt.But.below {X B : Nat} {a w w' : World} (h : kt.But X w w') (hX : B ≤ X) (hB : B ≤ w.heap.size) (hb : Below B a w) : Below B a w' :=
  hb.trans ⟨h.os, h.tape, h.output, h.size, fun k hk => h.block k (by omega) (by omega)⟩
/-- a field lies in block F at place i, and its pieces in a block that is not X -/
def FldX (w : World) (X F i : Nat) (f : rv.Fld) : Prop :=
  F ≠ X ∧ ∃ P, P ≠ X ∧ w.cell? ⟨F, i * 2, none⟩ = some (.func (.func (fnOf f.k)) #[] #[]) ∧ w.cell? ⟨F, i * 2 + 1, none⟩ = some (.slice (some ⟨P, 0, none⟩) f.ps.length f.ps.length) ∧
    ∀ m p, f.ps[m]? = some p → w.cell? ⟨P, m * 3, none⟩ = some (.int .i64 p.1) ∧ w.cell? ⟨P, m * 3 + 1, none⟩ = some (.int .i64 p.2.1) ∧ w.cell? ⟨P, m * 3 + 2, none⟩ = some (.int .i64 p.2.2)
def FldsX (w : World) (X F : Nat) (fs : List rv.Fld) : Prop := ∀ (j : Nat) (f : rv.Fld), fs[j]? = some f → FldX w X F j f
theorem FldX.keep {w w' : World} {X F i : Nat} {f : rv.Fld} (hb : kt.But X w w') (h : FldX w X F i f) : FldX w' X F i f := by
  obtain ⟨hF, P, hP, h1, h2, h3⟩ := h
  exact ⟨hF, P, hP, hb.cell h1 hF, hb.cell h2 hF, fun m p hm => ⟨hb.cell (h3 m p hm).1 hP, hb.cell (h3 m p hm).2.1 hP, hb.cell (h3 m p hm).2.2 hP⟩⟩
theorem FldsX.keep {w w' : World} {X F : Nat} {fs : List rv.Fld} (hb : kt.But X w w') (h : FldsX w X F fs) : FldsX w' X F fs := fun j f hf => (h j f hf).keep hb
theorem FldsX.of {w : World} {X F : Nat} {s : rv.Shape} {op : Int} (h : FldsAt w F 0 s.fs) (hg : rv.Good s)
    (h0 : w.cell? ⟨X, 0, none⟩ = some (.int .i64 op)) (h1 : w.cell? ⟨X, 1, none⟩ = some (.int .i64 0)) : FldsX w X F s.fs := by
  intro j f hf
  obtain ⟨P, f0, f1, p⟩ := FldsAt.at _ _ _ _ h hf
  rw [Nat.zero_add] at f0 f1
  obtain ⟨-, hps, hq⟩ := hg.p f (List.mem_of_getElem? hf)
  obtain ⟨q, hq0⟩ : ∃ q, f.ps[0]? = some q := ⟨_, List.getElem?_eq_getElem hps⟩
  have hP := (PiecesAt.at f.ps 0 0 q p hq0).2.1
  simp at hP
  refine ⟨?_, P, ?_, f0, f1, fun m r hm => by have := PiecesAt.at f.ps 0 m r p hm; rwa [Nat.zero_add] at this⟩
  · rintro rfl
    obtain ⟨G, g0, -⟩ := FldsAt.at (F := F) s.fs 0 0 (s.fs[0]'(by have := (List.getElem?_eq_some_iff.mp hf).1; omega)) h (List.getElem?_eq_getElem _)
    simp only [Nat.zero_add, Nat.zero_mul] at g0
    rw [h0] at g0
    cases g0
  · rintro rfl
    rw [h1] at hP
    have := (hq q (List.mem_of_getElem? hq0)).2.1.1
    have e : (0 : Int) = q.2.1 := by injection hP with hP; injection hP
    omega
/-- three boxes that a call lays first are there behind a callee that keeps old memory -/
theorem three_boxes {w w1 : World} {o0 o1 o2 : Obj} (hb : Below (((w.alloc o0).alloc o1).alloc o2).heap.size (((w.alloc o0).alloc o1).alloc o2) w1) : w1.heap[w.heap.size]? = some o0 ∧ w1.heap[w.heap.size + 1]? = some o1 ∧ w1.heap[w.heap.size + 1 + 1]? = some o2 ∧ Below w.heap.size w w1 ∧ w.heap.size + 1 + 1 + 1 ≤ w1.heap.size := by
  have s1 : (w.alloc o0).heap.size = w.heap.size + 1 := World.size_alloc _ _
  have s2 : ((w.alloc o0).alloc o1).heap.size = w.heap.size + 1 + 1 := by rw [World.size_alloc, s1]
  have s3 : (((w.alloc o0).alloc o1).alloc o2).heap.size = w.heap.size + 1 + 1 + 1 := by rw [World.size_alloc, s2]
  have hs := hb.size
  refine ⟨?_, ?_, ?_, ((((Below.refl _ _).alloc (Nat.le_refl _) o0).alloc (by omega) o1).alloc (by omega) o2).trans (hb.mono (by omega)), by omega⟩
  · rw [hb.block _ (by omega), heap_alloc_old _ _ (by omega), heap_alloc_old _ _ (by omega), heap_alloc_new]
  · rw [hb.block _ (by omega), heap_alloc_old _ _ (by omega), ← s1, heap_alloc_new]
  · rw [hb.block _ (by omega), ← s2, heap_alloc_new]
end Go.Proofs.Ytbcflhpaafpndaa
