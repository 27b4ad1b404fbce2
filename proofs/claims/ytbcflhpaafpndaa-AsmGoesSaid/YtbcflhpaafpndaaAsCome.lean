/- Lines that came in, opened from their reading. -/
import Derived.Test.YtbcflhpaafpndaaAsList
import Derived.Deep.Slices
import Derived.Deep.Fields
import Derived.ChangeSame
import Derived.Lib.SmallJoins
namespace Go.Proofs.Ytbcflhpaafpndaa
open Go.RowKit Go.Deep Go.Joins Go.ChangeShapes Go.WideShapes
set_option linter.unusedVariables false
section
variable {H : Type} {enc : TypeId × Value → H} {w : World} {base : Nat} {spare : Nat → Bool} {held : Bool}
theorem i64_come {fuel : Nat} {v : Value} {y : DataW H × List MemPlace} (h : DataW.trod enc Try.prog w base spare held fuel 3 [v] = some y) : ∃ n : Int, v = .int .i64 n ∧ kt.i64ok n := by
  obtain ⟨n, e, -, hw⟩ := DataW.trod_int Try.underlying3 h
  have := bl.wf_i64 hw
  exact ⟨n, by simpa using e, this⟩
theorem cells_int : Try.prog.cellsOf 3 = 1 := by kernel_rfl
theorem cells_rv : Try.prog.cellsOf 29 = 5 := by kernel_rfl
theorem cells_line : Try.prog.cellsOf 35 = 7 := by kernel_rfl
theorem some_of {α : Type} {l : List α} {i : Nat} {a : Option α} (h : a = l[i]?) (hi : i < l.length) : ∃ y, a = some y := ⟨l[i], by rw [h, List.getElem?_eq_getElem hi]⟩
/-- an instruction, from its cells -/
theorem rv_come {fuel : Nat} {v0 v1 v2 v3 v4 : Value} {y : DataW H × List MemPlace} (h : DataW.trod enc Try.prog w base spare held fuel 29 [v0, v1, v2, v3, v4] = some y) :
    ∃ a b c d e : Int, v0 = .int .i64 a ∧ v1 = .int .i64 b ∧ v2 = .int .i64 c ∧ v3 = .int .i64 d ∧ v4 = .int .i64 e ∧ kt.i64ok a ∧ kt.i64ok b ∧ kt.i64ok c ∧ kt.i64ok d ∧ kt.i64ok e := by
  obtain ⟨ys, n, _, _, hlen, hyl, hf⟩ := DataW.trod_struct Try.underlying29 h
  have g0 : DataW.trod enc Try.prog w base spare held n 3 (([v0, v1, v2, v3, v4].drop 0).take (Try.prog.cellsOf 3)) = ys[0]? := hf 0 _ rfl
  have g1 : DataW.trod enc Try.prog w base spare held n 3 (([v0, v1, v2, v3, v4].drop 1).take (Try.prog.cellsOf 3)) = ys[1]? := hf 1 _ rfl
  have g2 : DataW.trod enc Try.prog w base spare held n 3 (([v0, v1, v2, v3, v4].drop 2).take (Try.prog.cellsOf 3)) = ys[2]? := hf 2 _ rfl
  have g3 : DataW.trod enc Try.prog w base spare held n 3 (([v0, v1, v2, v3, v4].drop 3).take (Try.prog.cellsOf 3)) = ys[3]? := hf 3 _ rfl
  have g4 : DataW.trod enc Try.prog w base spare held n 3 (([v0, v1, v2, v3, v4].drop 4).take (Try.prog.cellsOf 3)) = ys[4]? := hf 4 _ rfl
  rw [cells_int] at g0 g1 g2 g3 g4
  obtain ⟨y0, t0⟩ := some_of g0 (by rw [hyl]; decide)
  obtain ⟨y1, t1⟩ := some_of g1 (by rw [hyl]; decide)
  obtain ⟨y2, t2⟩ := some_of g2 (by rw [hyl]; decide)
  obtain ⟨y3, t3⟩ := some_of g3 (by rw [hyl]; decide)
  obtain ⟨y4, t4⟩ := some_of g4 (by rw [hyl]; decide)
  obtain ⟨a, ha, a1⟩ := i64_come t0
  obtain ⟨b, hb, b1⟩ := i64_come t1
  obtain ⟨c, hc, c1⟩ := i64_come t2
  obtain ⟨d, hd, d1⟩ := i64_come t3
  obtain ⟨e, he, e1⟩ := i64_come t4
  exact ⟨a, b, c, d, e, ha, hb, hc, hd, he, a1, b1, c1, d1, e1⟩
/-- a line, from its cells -/
theorem ln_come {fuel : Nat} {cs : List Value} {y : DataW H × List MemPlace} (h : DataW.trod enc Try.prog w base spare held fuel 35 cs = some y) :
    ∃ x : kt.Ln, cs = x.cells.toList ∧ kt.LnOk x := by
  obtain ⟨ys, n, _, _, hlen, hyl, hf⟩ := DataW.trod_struct Try.underlying35 h
  rw [cells_line] at hlen
  match cs, hlen with
  | [v0, v1, v2, v3, v4, v5, v6], _ =>
    have g0 : DataW.trod enc Try.prog w base spare held n 3 (([v0, v1, v2, v3, v4, v5, v6].drop 0).take (Try.prog.cellsOf 3)) = ys[0]? := hf 0 _ rfl
    have g1 : DataW.trod enc Try.prog w base spare held n 3 (([v0, v1, v2, v3, v4, v5, v6].drop 1).take (Try.prog.cellsOf 3)) = ys[1]? := hf 1 _ rfl
    have g2 : DataW.trod enc Try.prog w base spare held n 29 (([v0, v1, v2, v3, v4, v5, v6].drop 2).take (Try.prog.cellsOf 29)) = ys[2]? := hf 2 _ rfl
    rw [cells_int] at g0 g1
    rw [cells_rv] at g2
    obtain ⟨y0, t0⟩ := some_of g0 (by rw [hyl]; decide)
    obtain ⟨y1, t1⟩ := some_of g1 (by rw [hyl]; decide)
    obtain ⟨y2, t2⟩ := some_of g2 (by rw [hyl]; decide)
    obtain ⟨kd, hk, k1⟩ := i64_come t0
    obtain ⟨lb, hl, l1⟩ := i64_come t1
    obtain ⟨a, b, c, d, e, ha, hb, hc, hd, he, a1, b1, c1, d1, e1⟩ := rv_come t2
    refine ⟨⟨kd, lb, a, b, c, d, e⟩, ?_, ⟨k1, l1, a1, b1, c1, d1, e1⟩⟩
    subst hk hl ha hb hc hd he
    rfl
end
/-- a slice of lines that came in -/
def kt.LinesC (w : World) (a : Option Addr) (n c : Nat) (ls : Nat → kt.Ln) : Prop := n ≤ c ∧ c ≤ 9223372036854775807 ∧ (n ≤ 40 → kt.Lines w a n ls)
section
variable {H : Type} {enc : TypeId × Value → H} {w : World} {base : Nat} {spare : Nat → Bool} {held : Bool}
theorem lines_come {fuel : Nat} {a : Option Addr} {len cap : Nat} {x : DataW H × List MemPlace} (hsp : ∀ b, spare b = true) (h : DataW.trod enc Try.prog w base spare held fuel 26 [.slice a len cap] = some x) : ∃ xs, kt.LinesC w a len cap xs := by
  rcases open_slice Try.underlying26 h with ⟨hcs, _⟩ | ⟨ad, l, c, m, n, D, Pl, hcs, hb, hl, hm, hmm, hx, hi⟩
  · simp at hcs
    obtain ⟨rfl, rfl, rfl⟩ := hcs
    exact ⟨fun _ => ⟨0, 0, 0, 0, 0, 0, 0⟩, by omega, by omega, fun _ => ⟨fun i hi => by omega, by omega, .inl rfl⟩⟩
  · simp at hcs
    obtain ⟨rfl, rfl, rfl⟩ := hcs
    rw [hsp, if_pos rfl] at hmm
    subst hmm
    have key : ∀ i, i < len → ∃ y : kt.Ln, kt.LnOk y ∧ ∀ j, j < 7 → w.cell? (ad.add (i * 7 + j)) = y.cells.toList[j]? := by
      intro i hil
      obtain ⟨cs', hc, ht⟩ := hi i (by omega)
      rw [cells_line] at hc
      obtain ⟨y, rfl, hok⟩ := ln_come ht
      obtain ⟨_, _, hat⟩ := World.cells?_some hc
      exact ⟨y, hok, fun j hj => by rw [← Go.Deep.add_add]; exact hat j hj⟩
    have key2 : ∃ xs : Nat → kt.Ln, ∀ i, i < len → kt.LnOk (xs i) ∧ ∀ j, j < 7 → w.cell? (ad.add (i * 7 + j)) = (xs i).cells.toList[j]? := by
      refine ⟨fun i => if h : i < len then (key i h).choose else ⟨0, 0, 0, 0, 0, 0, 0⟩, fun i hil => ?_⟩
      simp only [dif_pos hil]
      exact (key i hil).choose_spec
    obtain ⟨xs, hxs⟩ := key2
    refine ⟨xs, hl, by unfold maxLen at hm; omega, fun h40 => ⟨fun i hil => (hxs i hil).1, by omega, ?_⟩⟩
    by_cases h0 : len = 0
    · exact .inl h0
    · right
      obtain ⟨b, off, spot⟩ := ad
      have hc0 := (hxs 0 (by omega)).2 0 (by omega)
      have hspot : spot = none := by simpa [Addr.add] using World.cell?_spot hc0
      subst hspot
      refine ⟨b, off, rfl, fun i hil => ?_⟩
      have hadd : ∀ j, (⟨b, off, none⟩ : Addr).add j = ⟨b, off + j, none⟩ := fun j => by unfold Addr.add; split <;> simp_all
      have hj := (hxs i hil).2
      simp only [hadd, ← Nat.add_assoc] at hj
      exact ⟨hj 0 (by omega), hj 1 (by omega), hj 2 (by omega), hj 3 (by omega), hj 4 (by omega), hj 5 (by omega), hj 6 (by omega)⟩
end
end Go.Proofs.Ytbcflhpaafpndaa
