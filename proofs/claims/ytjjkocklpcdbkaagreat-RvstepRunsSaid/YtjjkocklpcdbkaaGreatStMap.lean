/- A map from numbers to values of any kind that the call itself has made, as a function. -/
import Derived.Test.YtjjkocklpcdbkaaGreatBits
import Derived.Maps.OwnOps
import Derived.Maps.Views
namespace Go.Proofs.YtjjkocklpcdbkaaGreat
open Go.RowKit Go.Maps
set_option linter.unusedVariables false
set_option maxRecDepth 100000
/-- an element, as it is -/
def kt.heldE : Value → Option (DataW Value × List MemPlace) := fun v => some (.held v, [])
/-- block b is a map of at most n entries that reads as f, z where nothing stands -/
def kt.ValMap (P : Program) (k : TypeId) (w : World) (b n : Nat) (z : Value) (f : Int → Value) : Prop :=
  ∃ D : DataW Value, IsMap D ∧ w.ownsMap P k kt.heldE b n D ∧ ∀ x, (Lit.int .i64 x).wf = true → D.atKey (.int .i64 x) (.held z) = .held (f x)
variable {P : Program} {t k e : TypeId} {z : Value}
theorem kt.ValMap.made (w : World) (P : Program) (k : TypeId) (z : Value) : kt.ValMap P k (w.alloc (.map #[] 0)) w.heap.size 0 z (fun _ => z) :=
  ⟨.map [], ⟨[], rfl⟩, World.ownsMap_made w P k kt.heldE, fun x _ => rfl⟩
theorem kt.ValMap.kept {w w' : World} {b n : Nat} {f : Int → Value} (h : kt.ValMap P k w b n z f) (hb : w'.heap[b]? = w.heap[b]?) : kt.ValMap P k w' b n z f := by
  obtain ⟨D, hD, ⟨es, clock, h1, F, hs, hd⟩, hf⟩ := h
  exact ⟨D, hD, ⟨es, clock, hb.trans h1, F, hs, hd⟩, hf⟩
theorem kt.ValMap.lt {w : World} {b n : Nat} {f : Int → Value} (h : kt.ValMap P k w b n z f) : b < w.heap.size := by
  obtain ⟨D, hD, h1, hf⟩ := h
  exact h1.lt
theorem kt.ValMap.is_map {w : World} {b n : Nat} {f : Int → Value} (h : kt.ValMap P k w b n z f) {cs : Array Value} {t : TypeId} {fr : Nat × Nat} (hb : w.heap[b]? = some (.cells cs t fr)) : False := by
  obtain ⟨D, hD, ⟨es, clock, h1, F, hs, hd⟩, hf⟩ := h
  rw [h1] at hb
  cases hb
theorem kt.ValMap.look {w : World} {b n : Nat} {f : Int → Value} (h : kt.ValMap P k w b n z f) (hk : P.underlying k = some (.int .i64)) (ht : P.underlying t = some (.map k e)) (hz : ∀ w, (zeroValue e).run P w = .ok z w)
    (x : Int) (hx : (Lit.int .i64 x).wf = true) : (Instr.lookup t (.map (some b)) (.int .i64 x) false).run P w = .ok (f x) w := by
  obtain ⟨D, hD, hown, hf⟩ := h
  obtain ⟨v, ps, hrun, hv⟩ := hown.lookup (int_keyed hk) ht (hz w) (zd := .held z) (zp := []) rfl (keyOf_int_mk hk hx)
  rw [hf x hx] at hv
  unfold kt.heldE at hv
  injection hv with hv
  injection hv with h1 h2
  injection h1 with h1
  rw [hrun, h1]
theorem kt.ValMap.put {w : World} {b n : Nat} {f : Int → Value} (h : kt.ValMap P k w b n z f) (hk : P.underlying k = some (.int .i64)) (ht : P.underlying t = some (.map k e)) (hn : n < maxLen)
    (x : Int) (v : Value) (hx : (Lit.int .i64 x).wf = true) :
    ∃ w', (Instr.mapUpdate t (.map (some b)) (.int .i64 x) v).run P w = .ok () w' ∧ kt.ValMap P k w' b (n + 1) z (fun y => if y = x then v else f y) ∧ w.grownBy w' (some b) := by
  obtain ⟨D, hD, hown, hf⟩ := h
  obtain ⟨w', hrun, ho, hg⟩ := hown.update (int_keyed hk) ht hn (keyOf_int_mk hk hx) (val := v) (d := .held v) (ps := []) rfl
  refine ⟨w', hrun, ⟨_, hD.put _ _, ho, fun y hy => ?_⟩, hg⟩
  by_cases hyx : y = x
  · subst hyx
    show _ = DataW.held (if y = y then v else f y)
    rw [if_pos rfl]
    exact atKey_put_same hD (show WideAt.IsKeyLit (.int .i64 y) from trivial) _ _
  · show _ = DataW.held (if y = x then v else f y)
    rw [if_neg hyx, atKey_put_other (by intro h; injection h with h1 h2; exact hyx h2)]
    exact hf y hy
/-- the store, at the walk's operation -/
theorem kt.wpList_valPut {ops : Array Oper} {rest : List Oper} {o : Oper} {a : Act} {Q : Exit → Act → World → Prop} {w : World} (hg : o.guard = none) (m x : Operand) (v : Operand) (hop : o.op = Op.mapUpdate t m x v ∨ o.op = Op.insert t m x v) (b n : Nat) (f : Int → Value) (h : kt.ValMap P k w b n z f)
    (hk : P.underlying k = some (.int .i64)) (ht : P.underlying t = some (.map k e)) (hn : n < maxLen) (key : Int) (val : Value) (hm : a.eval m = .map (some b)) (hx : a.eval x = .int .i64 key) (hv : a.eval v = val)
    (hwx : (Lit.int .i64 key).wf = true)
    (hK : ∀ w', kt.ValMap P k w' b (n + 1) z (fun y => if y = key then val else f y) → w.grownBy w' (some b) → wpList P ops Q rest (a.put o.dst undef) w') : wpList P ops Q (o :: rest) a w := by
  refine wpList_plain hg fun K' hK' => ?_
  obtain ⟨w', hrun, r1, r2⟩ := h.put hk ht hn key val hwx
  unfold Oper.wp
  rcases hop with hop | hop
  · simp [execOp, hop, hm, hx, hv, hrun, Result.andThen]
    exact hK' _ _ (hK w' r1 r2)
  · simp [execOp, hop, hm, hx, hv, hrun, Result.andThen]
    exact hK' _ _ (hK w' r1 r2)
end Go.Proofs.YtjjkocklpcdbkaaGreat
