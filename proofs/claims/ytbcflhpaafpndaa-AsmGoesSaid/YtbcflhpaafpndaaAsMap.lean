/- A map from numbers to numbers that the call itself has made, as a function. -/
import Derived.Test.YtbcflhpaafpndaaBits
import Derived.Maps.OwnOps
import Derived.Maps.Views
namespace Go.Proofs.Ytbcflhpaafpndaa
open Go.RowKit Go.Maps
set_option linter.unusedVariables false
/-- block b is a map of at most n entries that reads as f, 0 where nothing stands -/
def kt.IntMap (P : Program) (k e : TypeId) (w : World) (b n : Nat) (f : Int → Int) : Prop :=
  ∃ D : DataW Unit, IsMap D ∧ w.ownsMap P k (plainElem P e) b n D ∧ ∀ x, (Lit.int .i64 x).wf = true → D.atKey (.int .i64 x) (.lit (.int .i64 0)) = .lit (.int .i64 (f x))
variable {P : Program} {t k e : TypeId}
theorem kt.IntMap.made (w : World) (P : Program) (k e : TypeId) : kt.IntMap P k e (w.alloc (.map #[] 0)) w.heap.size 0 (fun _ => 0) :=
  ⟨.map [], ⟨[], rfl⟩, World.ownsMap_made w P k (plainElem P e), fun x _ => rfl⟩
theorem kt.IntMap.kept {w w' : World} {b n : Nat} {f : Int → Int} (h : kt.IntMap P k e w b n f) (hb : w'.heap[b]? = w.heap[b]?) : kt.IntMap P k e w' b n f := by
  obtain ⟨D, hD, ⟨es, clock, h1, F, hs, hd⟩, hf⟩ := h
  exact ⟨D, hD, ⟨es, clock, hb.trans h1, F, hs, hd⟩, hf⟩
theorem kt.IntMap.lt {w : World} {b n : Nat} {f : Int → Int} (h : kt.IntMap P k e w b n f) : b < w.heap.size := by
  obtain ⟨D, hD, h1, hf⟩ := h
  exact h1.lt
theorem kt.IntMap.mono {w : World} {b n m : Nat} {f : Int → Int} (h : kt.IntMap P k e w b n f) (hm : n ≤ m) : kt.IntMap P k e w b m f := by
  obtain ⟨D, hD, h1, hf⟩ := h
  exact ⟨D, hD, h1.mono hm, hf⟩
theorem kt.IntMap.is_map {w : World} {b n : Nat} {f : Int → Int} (h : kt.IntMap P k e w b n f) {cs : Array Value} {t : TypeId} {fr : Nat × Nat} (hb : w.heap[b]? = some (.cells cs t fr)) : False := by
  obtain ⟨D, hD, ⟨es, clock, h1, F, hs, hd⟩, hf⟩ := h
  rw [h1] at hb
  cases hb
theorem kt.IntMap.look {w : World} {b n : Nat} {f : Int → Int} (h : kt.IntMap P k e w b n f) (hk : P.underlying k = some (.int .i64)) (ht : P.underlying t = some (.map k e)) (he : P.underlying e = some (.int .i64)) (hz : ∀ w, (zeroValue e).run P w = .ok (.int .i64 0) w)
    (x : Int) (hx : (Lit.int .i64 x).wf = true) : (Instr.lookup t (.map (some b)) (.int .i64 x) false).run P w = .ok (.int .i64 (f x)) w := by
  obtain ⟨D, hD, hown, hf⟩ := h
  obtain ⟨c, hrun, hat, hwc⟩ := hown.lookup_int (int_keyed hk) ht he (hz w) (keyOf_int_mk hk hx)
  rw [hf x hx] at hat
  injection hat with hat
  injection hat with h1 h2
  rw [hrun, h2]
theorem kt.IntMap.put {w : World} {b n : Nat} {f : Int → Int} (h : kt.IntMap P k e w b n f) (hk : P.underlying k = some (.int .i64)) (ht : P.underlying t = some (.map k e)) (he : P.underlying e = some (.int .i64)) (hn : n < maxLen)
    (x v : Int) (hx : (Lit.int .i64 x).wf = true) (hv : (Lit.int .i64 v).wf = true) :
    ∃ w', (Instr.mapUpdate t (.map (some b)) (.int .i64 x) (.int .i64 v)).run P w = .ok () w' ∧ kt.IntMap P k e w' b (n + 1) (fun y => if y = x then v else f y) ∧ w.grownBy w' (some b) := by
  obtain ⟨D, hD, hown, hf⟩ := h
  obtain ⟨w', hrun, ho, hg⟩ := hown.update (int_keyed hk) ht hn (keyOf_int_mk hk hx) (plainElem_int he hv)
  refine ⟨w', hrun, ⟨_, hD.put _ _, ho, fun y hy => ?_⟩, hg⟩
  by_cases hyx : y = x
  · subst hyx
    show _ = DataW.lit (.int .i64 (if y = y then v else f y))
    rw [if_pos rfl]
    exact atKey_put_same hD (show WideAt.IsKeyLit (.int .i64 y) from trivial) _ _
  · show _ = DataW.lit (.int .i64 (if y = x then v else f y))
    rw [if_neg hyx, atKey_put_other (by intro h; injection h with h1 h2; exact hyx h2)]
    exact hf y hy
/-- the store, at the walk's operation -/
theorem kt.wpList_intPut {ops : Array Oper} {rest : List Oper} {o : Oper} {a : Act} {Q : Exit → Act → World → Prop} {w : World} (hg : o.guard = none) (m x v : Operand) (hop : o.op = Op.mapUpdate t m x v) (b n : Nat) (f : Int → Int) (h : kt.IntMap P k e w b n f)
    (hk : P.underlying k = some (.int .i64)) (ht : P.underlying t = some (.map k e)) (he : P.underlying e = some (.int .i64)) (hn : n < maxLen) (key val : Int) (hm : a.eval m = .map (some b)) (hx : a.eval x = .int .i64 key) (hv : a.eval v = .int .i64 val)
    (hwx : (Lit.int .i64 key).wf = true) (hwv : (Lit.int .i64 val).wf = true)
    (hK : ∀ w', kt.IntMap P k e w' b (n + 1) (fun y => if y = key then val else f y) → w.grownBy w' (some b) → wpList P ops Q rest (a.put o.dst undef) w') : wpList P ops Q (o :: rest) a w := by
  refine wpList_plain hg fun K' hK' => ?_
  obtain ⟨w', hrun, r1, r2⟩ := h.put hk ht he hn key val hwx hwv
  unfold Oper.wp
  simp [execOp, hop, hm, hx, hv, hrun, Result.andThen]
  exact hK' _ _ (hK w' r1 r2)
end Go.Proofs.Ytbcflhpaafpndaa
