/- The machine in memory; none, put, goes, next, Reg, Set, Place, Jump. -/
import Derived.Test.YtjjkocklpcdbkaaGreatStMach
namespace Go.Proofs.YtjjkocklpcdbkaaGreat
open Go.RowKit
set_option linter.unusedVariables false
set_option maxRecDepth 100000
namespace st
/-- the cells of told words -/
def tflat (code : Nat → Told) (n : Nat) : List Value := (List.range n).flatMap fun k => (code k).cells
theorem tflat_len (code : Nat → Told) : ∀ n, (tflat code n).length = n * 6
  | 0 => rfl
  | n + 1 => by
    unfold tflat
    rw [List.range_succ, List.flatMap_append, List.length_append]
    have := tflat_len code n
    unfold tflat at this
    rw [this]
    simp [Told.cells]
    omega
theorem tflat_at (code : Nat → Told) : ∀ n k j, k < n → j < 6 → (tflat code n)[k * 6 + j]? = (code k).cells[j]?
  | 0, k, j, hk, hj => by omega
  | n + 1, k, j, hk, hj => by
    have e : tflat code (n + 1) = tflat code n ++ (code n).cells := by
      unfold tflat
      rw [List.range_succ, List.flatMap_append]
      simp
    rw [e]
    by_cases h : k < n
    · rw [List.getElem?_append_left (by rw [tflat_len]; omega)]
      exact tflat_at code n k j h hj
    · obtain rfl : k = n := by omega
      rw [List.getElem?_append_right (by rw [tflat_len]; omega), tflat_len]
      congr 1
      omega
end st
/-- where a machine lies: its block, its memory's two, its code's, its map's -/
structure st.Pl where
  p : Nat
  mp : Nat
  g : Nat
  db : Nat
  ca : Option Addr
  n : Nat
  c : Nat
/-- told words lie there -/
def CodeAt (w : World) (a : Option Addr) (n : Nat) (code : Nat → st.Told) : Prop := n = 0 ∨ ∃ b, a = some ⟨b, 0, none⟩ ∧ ∃ rest, w.heap[b]? = some (.cells (st.tflat code n ++ rest).toArray 73 (0, 0))
/-- a machine lies there -/
structure IsMach (w : World) (P : st.Pl) (code : Nat → st.Told) (s : st.S) : Prop where
  row : w.heap[P.p]? = some (.cells (st.mcells s P.mp (.slice P.ca P.n P.c) P.db) 69 (0, 0))
  mem : IsMem w P.mp P.g s.l
  deeds : kt.ValMap Tryz.prog 3 w P.db 100 .nilFunc st.deed
  told : CodeAt w P.ca P.n code
  ok : st.SOk s
  ins : ∀ k, k < P.n → st.ToldOk (code k)
  small : P.n ≤ 65536
/-- w' is w, but for two blocks and new ones -/
structure But2 (p g : Nat) (w w' : World) : Prop where
  os : w'.os = w.os
  tape : w'.tape = w.tape
  output : w'.output = w.output
  size : w.heap.size ≤ w'.heap.size
  block : ∀ k, k ≠ p → k ≠ g → k < w.heap.size → w'.heap[k]? = w.heap[k]?
theorem But2.refl (p g : Nat) (w : World) : But2 p g w w := ⟨rfl, rfl, rfl, Nat.le_refl _, fun _ _ _ _ => rfl⟩
theorem But2.trans {p g : Nat} {a b c : World} (h : But2 p g a b) (k : But2 p g b c) : But2 p g a c :=
  ⟨k.os.trans h.os, k.tape.trans h.tape, k.output.trans h.output, Nat.le_trans h.size k.size, fun i h1 h2 h3 => (k.block i h1 h2 (Nat.lt_of_lt_of_le h3 h.size)).trans (h.block i h1 h2 h3)⟩
theorem But2.of_below {p g : Nat} {w w' : World} (h : Below w.heap.size w w') : But2 p g w w' := ⟨h.os, h.tape, h.output, h.size, fun k _ _ hk => h.block k hk⟩
theorem But2.of_only {p g : Nat} {w w' : World} (h : kt.Only p w w') : But2 p g w w' := ⟨h.os, h.tape, h.output, by rw [h.size]; exact Nat.le_refl _, fun k h1 _ _ => h.block k h1⟩
theorem But2.of_grown {p g : Nat} {w w' : World} (h : w.grownBy w' (some g)) : But2 p g w w' := ⟨h.os, h.tape, h.output, h.size, fun k _ h2 hk => h.block k hk (by intro e; injection e with e; exact h2 e)⟩
theorem But2.drewN {p g : Nat} {a w : World} (h : But2 p g a w) (m : Nat) : But2 p g a (w.drewN m) := ⟨h.os, h.tape, h.output, h.size, h.block⟩
theorem But2.below {p g B : Nat} {a w w' : World} (h : But2 p g w w') (hb : Below B a w) (h1 : B ≤ p) (h2 : B ≤ g) (h3 : B ≤ w.heap.size) : Below B a w' :=
  hb.trans ⟨h.os, h.tape, h.output, h.size, fun k hk => h.block k (by omega) (by omega) (by omega)⟩
theorem IsMach.lt {w : World} {P : st.Pl} {code : Nat → st.Told} {s : st.S} (h : IsMach w P code s) : P.p < w.heap.size := (Array.getElem?_eq_some_iff.1 h.row).1
/-- two blocks of cells of different types are two -/
theorem type_ne {w : World} {a b : Nat} {ca cb : Array Value} {ta tb : TypeId} {fa fb : Nat × Nat} (ha : w.heap[a]? = some (.cells ca ta fa)) (hb : w.heap[b]? = some (.cells cb tb fb)) (ht : ta ≠ tb) : a ≠ b := by
  intro e
  subst e
  rw [ha] at hb
  injection hb with hb
  injection hb with h1 h2 h3
  exact ht h2
theorem IsMach.ne_mp {w : World} {P : st.Pl} {code : Nat → st.Told} {s : st.S} (h : IsMach w P code s) : P.p ≠ P.mp := by
  obtain ⟨cap, _, h2⟩ := h.mem.head
  exact type_ne h.row h2 (by decide)
theorem IsMach.ne_g {w : World} {P : st.Pl} {code : Nat → st.Told} {s : st.S} (h : IsMach w P code s) : P.p ≠ P.g := by
  obtain ⟨rest, h2⟩ := h.mem.row
  exact type_ne h.row h2 (by decide)
theorem IsMach.ne_db {w : World} {P : st.Pl} {code : Nat → st.Told} {s : st.S} (h : IsMach w P code s) : P.p ≠ P.db := fun e => h.deeds.is_map (e ▸ h.row)
theorem IsMach.g_db {w : World} {P : st.Pl} {code : Nat → st.Told} {s : st.S} (h : IsMach w P code s) : P.g ≠ P.db := by
  obtain ⟨rest, h2⟩ := h.mem.row
  exact fun e => h.deeds.is_map (e ▸ h2)
theorem CodeAt.kept {w w' : World} {a : Option Addr} {n : Nat} {code : Nat → st.Told} (h : CodeAt w a n code) (hb : ∀ b, a = some ⟨b, 0, none⟩ → b < w.heap.size → (∃ cs, w.heap[b]? = some (.cells cs 73 (0, 0))) → w'.heap[b]? = w.heap[b]?) : CodeAt w' a n code := by
  rcases h with h | ⟨b, e, rest, h⟩
  · exact .inl h
  · exact .inr ⟨b, e, rest, (hb b e (Array.getElem?_eq_some_iff.1 h).1 ⟨_, h⟩).trans h⟩
/-- what a machine has stays, if its blocks stay -/
theorem IsMach.keep {w w' : World} {P : st.Pl} {code : Nat → st.Told} {s : st.S} (h : IsMach w P code s) (hb : Below w.heap.size w w') : IsMach w' P code s :=
  ⟨(hb.block _ h.lt).trans h.row, h.mem.keep hb, h.deeds.kept (hb.block _ h.deeds.lt), h.told.kept (fun b _ hl _ => hb.block b hl), h.ok, h.ins, h.small⟩
/-- a machine whose own cells turn -/
theorem IsMach.turn {w w' : World} {P : st.Pl} {code : Nat → st.Told} {s s' : st.S} (h : IsMach w P code s) (ho : kt.Only P.p w w') (hl : s'.l = s.l) (hr : w'.heap[P.p]? = some (.cells (st.mcells s' P.mp (.slice P.ca P.n P.c) P.db) 69 (0, 0))) (hok : st.SOk s') : IsMach w' P code s' := by
  refine ⟨hr, ?_, h.deeds.kept (ho.block _ h.ne_db.symm), h.told.kept (fun b _ _ hc => ?_), hok, h.ins, h.small⟩
  · rw [hl]
    exact h.mem.kept (ho.block _ h.ne_mp.symm) (ho.block _ h.ne_g.symm)
  · obtain ⟨cs, hc⟩ := hc
    exact ho.block _ (type_ne hc h.row (by decide))
/-- a machine whose memory turns -/
theorem IsMach.store {w w' : World} {P : st.Pl} {code : Nat → st.Told} {s : st.S} {l : List Int} (h : IsMach w P code s) (hg : w.grownBy w' (some P.g)) (hm : IsMem w' P.mp P.g l) : IsMach w' P code { s with l := l } := by
  have hb : ∀ k, k ≠ P.g → k < w.heap.size → w'.heap[k]? = w.heap[k]? := fun k h1 h2 => hg.block k h2 (by intro e; injection e with e; exact h1 e)
  refine ⟨(hb _ h.ne_g h.lt).trans h.row, hm, h.deeds.kept (hb _ h.g_db.symm h.deeds.lt), h.told.kept (fun b _ hl hc => ?_), ⟨h.ok.r, h.ok.pc, h.ok.zero⟩, h.ins, h.small⟩
  obtain ⟨cs, hc⟩ := hc
  obtain ⟨rest, h2⟩ := h.mem.row
  exact hb _ (type_ne hc h2 (by decide)) hl
section
variable {w : World} {P : st.Pl} {code : Nat → st.Told} {s : st.S}
theorem IsMach.regC (h : IsMach w P code s) (n : Nat) (hn : n < 32) : w.cell? ⟨P.p, n, none⟩ = some (.int .u64 (s.r n)) := (cell_of_row _ _ _ _ _ _ h.row).trans (by rw [st.mcells_reg _ _ _ _ _ hn])
theorem IsMach.pcC (h : IsMach w P code s) : w.cell? ⟨P.p, 32, none⟩ = some (.int .u64 s.pc) := (cell_of_row _ _ _ _ _ _ h.row).trans (st.mcells_tail _ _ _ _ 0)
theorem IsMach.mC (h : IsMach w P code s) : w.cell? ⟨P.p, 33, none⟩ = some (.pointer (some ⟨P.mp, 0, none⟩)) := (cell_of_row _ _ _ _ _ _ h.row).trans (st.mcells_tail _ _ _ _ 1)
theorem IsMach.codeC (h : IsMach w P code s) : w.cell? ⟨P.p, 34, none⟩ = some (.slice P.ca P.n P.c) := (cell_of_row _ _ _ _ _ _ h.row).trans (st.mcells_tail _ _ _ _ 2)
theorem IsMach.doesC (h : IsMach w P code s) : w.cell? ⟨P.p, 35, none⟩ = some (.map (some P.db)) := (cell_of_row _ _ _ _ _ _ h.row).trans (st.mcells_tail _ _ _ _ 3)
end
theorem mnone_any (w : World) (P : st.Pl) (code : Nat → st.Told) (s : st.S) (h : IsMach w P code s) : Calls Tryz.prog 30 #[.pointer (some ⟨P.p, 0, none⟩)] w fun e w' => e = .returned (.bool false) ∧ w' = w := by
  have c := h.mC
  clear h
  go_enter Tryz.func30, Tryz.ntmps30
  go_wp2
  go_ret
  exact ⟨rfl, rfl⟩
/-- what a call that turns a machine answers -/
def TurnPost (P : st.Pl) (code : Nat → st.Told) (v : Value) (s : st.S) (w : World) (e : Ending) (w' : World) : Prop := e = .returned v ∧ IsMach w' P code s ∧ But2 P.p P.g w w'
theorem goes_any (w : World) (P : st.Pl) (code : Nat → st.Told) (s : st.S) (a : Int) (h : IsMach w P code s) (ha : st.isU a) :
    Calls Tryz.prog 102 #[.pointer (some ⟨P.p, 0, none⟩), .int .u64 a] w (TurnPost P code (.int .i64 0) (s.go a) w) := by
  have c := h.pcC
  have fr := frozen_of_row w P.p 32 _ _ h.row
  have HE : Hid (TurnPost P code (.int .i64 0) (s.go a) w (.returned (.int .i64 0)) (w.setCell ⟨P.p, 32, none⟩ (.int .u64 a))) := bl.hid ⟨rfl, h.turn (kt.Only.setCell _ _ _ _) rfl (by rw [heap_setCell_same _ _ _ _ _ _ h.row, st.mcells_go]) (h.ok.go a ha), But2.of_only (kt.Only.setCell _ _ _ _)⟩
  clear h
  go_enter Tryz.func102, Tryz.ntmps102
  go_wp2
  go_ret
  exact HE.out
theorem put_any (w : World) (P : st.Pl) (code : Nat → st.Told) (s : st.S) (n v : Int) (h : IsMach w P code s) (hn : 0 ≤ n ∧ n ≤ 31) (hv : st.isU v) :
    Calls Tryz.prog 39 #[.pointer (some ⟨P.p, 0, none⟩), .int .i64 n, .int .u64 v] w (TurnPost P code (.tuple #[]) (s.put n v) w) := by
  obtain ⟨k, rfl⟩ : ∃ k : Nat, n = k := ⟨n.toNat, by omega⟩
  by_cases h0 : 0 < k
  · have c := h.regC k (by omega)
    have fr := frozen_of_row w P.p k _ _ h.row
    have HE : Hid (TurnPost P code (.tuple #[]) (s.put k v) w (.returned (.tuple #[])) (w.setCell ⟨P.p, k, none⟩ (.int .u64 v))) := bl.hid ⟨rfl, h.turn (kt.Only.setCell _ _ _ _) (by unfold st.S.put; split <;> rfl) (by rw [heap_setCell_same _ _ _ _ _ _ h.row, st.mcells_put _ _ _ _ k v h0 (by omega)]) (h.ok.put k v hv), But2.of_only (kt.Only.setCell _ _ _ _)⟩
    have hk : k < 32 := by omega
    clear h hn hv
    go_enter Tryz.func39, Tryz.ntmps39
    go_wp2
    go_end0
    exact HE.out
  · obtain rfl : k = 0 := by omega
    have HE : Hid (TurnPost P code (.tuple #[]) (s.put (0 : Nat) v) w (.returned (.tuple #[])) w) := bl.hid ⟨rfl, by unfold st.S.put; rw [if_neg (by omega)]; exact h, But2.refl _ _ _⟩
    clear h hn hv h0
    go_enter Tryz.func39, Tryz.ntmps39
    go_wp2
    go_end0
    exact HE.out
end Go.Proofs.YtjjkocklpcdbkaaGreat
