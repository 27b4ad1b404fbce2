/- A slice of calls that came in, opened from its reading. -/
import Derived.Test.YtkohmoekomegnaaMemActs
import Derived.Deep.Slices
import Derived.Deep.Fields
import Derived.ChangeSame
import Derived.Lib.SmallJoins
namespace Go.Proofs.Ytkohmoekomegnaa
open Go.RowKit Go.Deep Go.Joins Go.ChangeShapes Go.WideShapes
set_option linter.unusedVariables false

section
variable {H : Type} {enc : TypeId × Value → H} {P : Program} {w : World} {base : Nat} {spare : Nat → Bool} {held : Bool}
/-- a struct's fields of one cell each, from its cells -/
theorem struct_fields {e : TypeId} {fs : Array Field} {fuel : Nat} {cs : List Value} {x : DataW H × List MemPlace} (he : P.underlying e = some (.struct fs)) (hone : oneCellFields P fs = true) (hC : P.cellsOf e = fs.size)
    (h : DataW.trod enc P w base spare held fuel e cs = some x) :
    cs.length = fs.size ∧ ∃ n, ∀ (j : Nat) (f : Field), fs[j]? = some f → ∃ (v : Value) (y : DataW H × List MemPlace), cs[j]? = some v ∧ DataW.trod enc P w base spare held n f.type [v] = some y := by
  obtain ⟨ys, n, _, _, hlen, hyl, hf⟩ := DataW.trod_struct he h
  refine ⟨hlen.trans hC, n, fun j f hj => ?_⟩
  obtain ⟨ho, hk⟩ := hone_of hone j f hj
  have hjl : j < fs.size := (Array.getElem?_eq_some_iff.1 hj).1
  have hjc : j < cs.length := by omega
  have h1 := hf j f hj
  rw [ho, hk, List.drop_eq_getElem_cons hjc] at h1
  exact ⟨cs[j], ys[j]'(by omega), List.getElem?_eq_getElem hjc, by rw [show [cs[j]] = (cs[j] :: cs.drop (j + 1)).take 1 from rfl, h1]; exact List.getElem?_eq_getElem (by omega)⟩
end
section
variable {H : Type} {enc : TypeId × Value → H} {w : World} {base : Nat} {spare : Nat → Bool} {held : Bool}
theorem i64_come {fuel : Nat} {v : Value} {y : DataW H × List MemPlace} (h : DataW.trod enc Try.prog w base spare held fuel 3 [v] = some y) : ∃ n : Int, v = .int .i64 n ∧ -9223372036854775808 ≤ n ∧ n ≤ 9223372036854775807 := by
  obtain ⟨n, e, -, hw⟩ := DataW.trod_int Try.underlying3 h
  have := bl.wf_i64 hw
  exact ⟨n, by simpa using e, this⟩
theorem u64_come {fuel : Nat} {v : Value} {y : DataW H × List MemPlace} (h : DataW.trod enc Try.prog w base spare held fuel 23 [v] = some y) : ∃ n : Int, v = .int .u64 n ∧ 0 ≤ n ∧ n < 18446744073709551616 := by
  obtain ⟨n, e, -, hw⟩ := DataW.trod_int Try.underlying23 h
  have := bl.wf_u64 hw
  exact ⟨n, by simpa using e, this⟩
/-- a slice of bytes in a field -/
theorem bytes_come {fuel : Nat} {v : Value} {y : DataW H × List MemPlace} (hsp : ∀ b, spare b = true) (h : DataW.trod enc Try.prog w base spare held fuel 22 [v] = some y) :
    ∃ a n c l, v = .slice a n c ∧ kt.Rd w a n l ∧ n ≤ 9223372036854775807 ∧ ∀ ad, a = some ad → n = 0 ∨ ad.block < w.heap.size := by
  have key : ∃ (a : Option Addr) (n c : Nat) (zs : List Int), v = .slice a n c ∧ n ≤ c ∧ c ≤ maxLen ∧ kt.Rd w a n (zs.take n) := by
    rcases open_ints Try.underlying22 Try.underlying5 (by kernel_rfl) h with ⟨hcs, _⟩ | ⟨x, l, c, zs, hcs, _, hl, hm, hz, _, hcell, hwz⟩
    · simp at hcs
      subst hcs
      exact ⟨none, 0, 0, [], rfl, Nat.le_refl _, by unfold maxLen; omega, kt.Rd.come (.inl ⟨rfl, rfl, rfl, rfl⟩)⟩
    · simp at hcs
      subst hcs
      rw [hsp, if_pos rfl] at hz
      exact ⟨some x, l, c, zs, rfl, hl, hm, kt.Rd.come (.inr ⟨x, rfl, hl, hm, hz, hcell, hwz⟩)⟩
  obtain ⟨a, n, c, zs, e, h1, h2, h3⟩ := key
  refine ⟨a, n, c, _, e, h3, by unfold maxLen at h2; omega, fun ad ha => ?_⟩
  by_cases h0 : n = 0
  · exact .inl h0
  · obtain ⟨b, off, e', hc⟩ := h3.2.2.resolve_left h0
    rw [ha] at e'
    simp only [Option.some.injEq] at e'
    subst e'
    exact .inr (block_lt_of_cell (hc 0 (by omega)))
/-- a call, from its cells -/
theorem act_come {fuel : Nat} {cs : List Value} {y : DataW H × List MemPlace} (hsp : ∀ b, spare b = true) (h : DataW.trod enc Try.prog w base spare held fuel 45 cs = some y) :
    ∃ x : kt.Act, cs = [.int .i64 x.kind, .int .i64 x.n, .int .u64 x.at', .int .u64 x.v, .slice x.ba x.bl x.bc] ∧ kt.ActOk w x := by
  obtain ⟨hlen, n, hf⟩ := struct_fields Try.underlying45 (by kernel_rfl) (by kernel_rfl) h
  obtain ⟨v0, y0, c0, t0⟩ := hf 0 _ rfl
  obtain ⟨v1, y1, c1, t1⟩ := hf 1 _ rfl
  obtain ⟨v2, y2, c2, t2⟩ := hf 2 _ rfl
  obtain ⟨v3, y3, c3, t3⟩ := hf 3 _ rfl
  obtain ⟨v4, y4, c4, t4⟩ := hf 4 _ rfl
  obtain ⟨kd, rfl, k0, k1⟩ := i64_come t0
  obtain ⟨nn, rfl, n0, n1⟩ := i64_come t1
  obtain ⟨aa, rfl, a0, a1⟩ := u64_come t2
  obtain ⟨vv, rfl, b0, b1⟩ := u64_come t3
  obtain ⟨ba, bn, bc, l, rfl, r1, r2, r3⟩ := bytes_come hsp t4
  refine ⟨⟨kd, nn, aa, vv, ba, bn, bc, l⟩, ?_, ⟨⟨k0, k1⟩, ⟨n0, n1⟩, ⟨a0, a1⟩, ⟨b0, b1⟩, r1, r2, r3⟩⟩
  match cs, hlen with
  | [e0, e1, e2, e3, e4], _ =>
    simp at c0 c1 c2 c3 c4
    subst c0 c1 c2 c3 c4
    rfl
theorem acts_come {fuel : Nat} {a : Option Addr} {len cap : Nat} {x : DataW H × List MemPlace} (hsp : ∀ b, spare b = true) (h : DataW.trod enc Try.prog w base spare held fuel 42 [.slice a len cap] = some x) : ∃ xs, kt.Acts w a len xs := by
  rcases open_slice Try.underlying42 h with ⟨hcs, _⟩ | ⟨ad, l, c, m, n, D, Pl, hcs, hb, hl, hm, hmm, hx, hi⟩
  · simp at hcs
    obtain ⟨rfl, rfl, rfl⟩ := hcs
    exact ⟨fun _ => ⟨0, 0, 0, 0, none, 0, 0, []⟩, by omega, fun i hi => by omega, .inl rfl⟩
  · simp at hcs
    obtain ⟨rfl, rfl, rfl⟩ := hcs
    rw [hsp, if_pos rfl] at hmm
    subst hmm
    have h5 : Try.prog.cellsOf 45 = 5 := by kernel_rfl
    have key : ∀ i, i < len → ∃ y : kt.Act, kt.ActOk w y ∧ ∀ j, j < 5 → w.cell? (ad.add (i * 5 + j)) = ([.int .i64 y.kind, .int .i64 y.n, .int .u64 y.at', .int .u64 y.v, .slice y.ba y.bl y.bc] : List Value)[j]? := by
      intro i hil
      obtain ⟨cs', hc, ht⟩ := hi i (by omega)
      rw [h5] at hc
      obtain ⟨y, rfl, hok⟩ := act_come hsp ht
      obtain ⟨_, _, hat⟩ := World.cells?_some hc
      exact ⟨y, hok, fun j hj => by rw [← Go.Deep.add_add]; exact hat j hj⟩
    have key2 : ∃ xs : Nat → kt.Act, ∀ i, i < len → kt.ActOk w (xs i) ∧ ∀ j, j < 5 → w.cell? (ad.add (i * 5 + j)) = ([.int .i64 (xs i).kind, .int .i64 (xs i).n, .int .u64 (xs i).at', .int .u64 (xs i).v, .slice (xs i).ba (xs i).bl (xs i).bc] : List Value)[j]? := by
      refine ⟨fun i => if h : i < len then (key i h).choose else ⟨0, 0, 0, 0, none, 0, 0, []⟩, fun i hil => ?_⟩
      simp only [dif_pos hil]
      exact (key i hil).choose_spec
    obtain ⟨xs, hxs⟩ := key2
    refine ⟨xs, by unfold maxLen at hm; omega, fun i hil => (hxs i hil).1, ?_⟩
    by_cases h0 : len = 0
    · exact .inl h0
    · right
      obtain ⟨b, off, spot⟩ := ad
      have hc0 := (hxs 0 (by omega)).2 0 (by omega)
      have hspot : spot = none := by simpa [Addr.add] using World.cell?_spot hc0
      subst hspot
      refine ⟨b, off, rfl, fun i hil => ?_⟩
      have hadd : ∀ j, (⟨b, off, none⟩ : Addr).add j = ⟨b, off + j, none⟩ := fun j => by unfold Addr.add; split <;> simp_all
      have hj := (hxs i hil).2
      simp only [hadd, ← Nat.add_assoc] at hj
      exact ⟨hj 0 (by omega), hj 1 (by omega), hj 2 (by omega), hj 3 (by omega), hj 4 (by omega)⟩
end
end Go.Proofs.Ytkohmoekomegnaa
