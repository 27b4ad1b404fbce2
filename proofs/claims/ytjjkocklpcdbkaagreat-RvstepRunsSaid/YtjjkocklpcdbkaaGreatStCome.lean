/- A start that came in by value, opened from its reading. -/
import Derived.Test.YtjjkocklpcdbkaaGreatStCode
import Derived.Deep.Slices
import Derived.Deep.Fields
import Derived.ChangeSame
import Derived.Lib.SmallJoins
namespace Go.Proofs.YtjjkocklpcdbkaaGreat
open Go.RowKit Go.Deep Go.Joins Go.ChangeShapes Go.WideShapes
set_option linter.unusedVariables false
set_option maxRecDepth 100000
theorem wf_u32 {a : Int} (h : (Lit.int .u32 a).wf = true) : 0 ≤ a ∧ a < 4294967296 := by
  have hmin : IntKind.u32.min = 0 := rfl
  have hmax : IntKind.u32.max = 4294967295 := rfl
  simp only [Lit.wf, Bool.and_eq_true, decide_eq_true_eq] at h
  omega
/-- numbers of 64 bits that lie somewhere -/
def RegsAt (w : World) (a : Option Addr) (n : Nat) (f : Nat → Int) : Prop := (∀ i, i < n → st.isU (f i)) ∧ (n = 0 ∨ ∃ b off, a = some ⟨b, off, none⟩ ∧ ∀ i, i < n → w.cell? ⟨b, off + i, none⟩ = some (.int .u64 (f i)))
theorem RegsAt.keep {w w' : World} {a : Option Addr} {n : Nat} {f : Nat → Int} (h : RegsAt w a n f) (hb : Below w.heap.size w w') : RegsAt w' a n f := by
  refine ⟨h.1, ?_⟩
  rcases h.2 with h0 | ⟨b, off, e, hc⟩
  · exact .inl h0
  · exact .inr ⟨b, off, e, fun i hi => (World.cell?_of_block (w := w) (a := ⟨b, off + i, none⟩) (hb.block _ (block_lt_of_cell (hc i hi)))).trans (hc i hi)⟩
/-- a start -/
structure kt.Start where
  ca : Option Addr
  cn : Nat
  cc : Nat
  cf : Nat → Int
  ra : Option Addr
  rn : Nat
  rc : Nat
  rf : Nat → Int
  far : Bool
  at' : Int
  ba : Option Addr
  bn : Nat
  bc : Nat
  bl : List Int
def kt.Start.cells (x : kt.Start) : Array Value := #[.slice x.ca x.cn x.cc, .slice x.ra x.rn x.rc, .bool x.far, .int .u64 x.at', .slice x.ba x.bn x.bc]
structure kt.StartOk (w : World) (x : kt.Start) : Prop where
  code : WordsAt w x.ca x.cn x.cf
  cn : x.cn ≤ 9223372036854775807
  regs : RegsAt w x.ra x.rn x.rf
  rn : x.rn ≤ 9223372036854775807
  at' : st.isU x.at'
  bytes : kt.Rd w x.ba x.bn x.bl
  bn : x.bn ≤ 9223372036854775807
theorem kt.StartOk.keep {w w' : World} {x : kt.Start} (h : kt.StartOk w x) (hb : Below w.heap.size w w') : kt.StartOk w' x := ⟨h.code.keep hb, h.cn, h.regs.keep hb, h.rn, h.at', h.bytes.keep hb, h.bn⟩
section
variable {H : Type} {enc : TypeId × Value → H} {w : World} {base : Nat} {spare : Nat → Bool} {held : Bool}
theorem u32s_come {fuel : Nat} {v : Value} {y : DataW H × List MemPlace} (hsp : ∀ b, spare b = true) (h : DataW.trod enc Tryz.prog w base spare held fuel 22 [v] = some y) : ∃ a n c f, v = .slice a n c ∧ WordsAt w a n f ∧ n ≤ 9223372036854775807 := by
  rcases open_slice1 Tryz.underlying22 (by kernel_rfl) h with ⟨hcs, _⟩ | ⟨ad, l, c, m, n, V, D, Pl, hcs, hb, hl, hm, hmm, hx, hi⟩
  · simp at hcs
    subst hcs
    exact ⟨none, 0, 0, fun _ => 0, rfl, ⟨fun i hi => by omega, .inl rfl⟩, by omega⟩
  · simp at hcs
    subst hcs
    rw [hsp, if_pos rfl] at hmm
    subst hmm
    have key : ∀ i, i < l → ∃ z : Int, V i = .int .u32 z ∧ 0 ≤ z ∧ z < 4294967296 := fun i hil => by
      obtain ⟨z, e, -, hw⟩ := DataW.trod_int Tryz.underlying97 (hi i (by omega)).2
      exact ⟨z, by simpa using e, wf_u32 hw⟩
    obtain ⟨f, hf⟩ := choose_lt key
    refine ⟨some ad, l, _, f, rfl, ⟨fun i hil => (hf i hil).2, ?_⟩, by unfold maxLen at hm; omega⟩
    by_cases h0 : l = 0
    · exact .inl h0
    · right
      obtain ⟨b, off, spot⟩ := ad
      have hc0 := (hi 0 (by omega)).1
      have hspot : spot = none := by simpa [Addr.add] using World.cell?_spot hc0
      subst hspot
      refine ⟨b, off, rfl, fun i hil => ?_⟩
      have hadd : ∀ j, (⟨b, off, none⟩ : Addr).add j = ⟨b, off + j, none⟩ := fun j => by unfold Addr.add; split <;> simp_all
      have := (hi i (by omega)).1
      rw [hadd, (hf i hil).1] at this
      exact this
theorem u64s_come {fuel : Nat} {v : Value} {y : DataW H × List MemPlace} (hsp : ∀ b, spare b = true) (h : DataW.trod enc Tryz.prog w base spare held fuel 23 [v] = some y) : ∃ a n c f, v = .slice a n c ∧ RegsAt w a n f ∧ n ≤ 9223372036854775807 := by
  rcases open_slice1 Tryz.underlying23 (by kernel_rfl) h with ⟨hcs, _⟩ | ⟨ad, l, c, m, n, V, D, Pl, hcs, hb, hl, hm, hmm, hx, hi⟩
  · simp at hcs
    subst hcs
    exact ⟨none, 0, 0, fun _ => 0, rfl, ⟨fun i hi => by omega, .inl rfl⟩, by omega⟩
  · simp at hcs
    subst hcs
    rw [hsp, if_pos rfl] at hmm
    subst hmm
    have key : ∀ i, i < l → ∃ z : Int, V i = .int .u64 z ∧ st.isU z := fun i hil => by
      obtain ⟨z, e, -, hw⟩ := DataW.trod_int Tryz.underlying24 (hi i (by omega)).2
      exact ⟨z, by simpa using e, bl.wf_u64 hw⟩
    obtain ⟨f, hf⟩ := choose_lt key
    refine ⟨some ad, l, _, f, rfl, ⟨fun i hil => (hf i hil).2, ?_⟩, by unfold maxLen at hm; omega⟩
    by_cases h0 : l = 0
    · exact .inl h0
    · right
      obtain ⟨b, off, spot⟩ := ad
      have hc0 := (hi 0 (by omega)).1
      have hspot : spot = none := by simpa [Addr.add] using World.cell?_spot hc0
      subst hspot
      refine ⟨b, off, rfl, fun i hil => ?_⟩
      have hadd : ∀ j, (⟨b, off, none⟩ : Addr).add j = ⟨b, off + j, none⟩ := fun j => by unfold Addr.add; split <;> simp_all
      have := (hi i (by omega)).1
      rw [hadd, (hf i hil).1] at this
      exact this
theorem u64_come {fuel : Nat} {v : Value} {y : DataW H × List MemPlace} (h : DataW.trod enc Tryz.prog w base spare held fuel 24 [v] = some y) : ∃ n : Int, v = .int .u64 n ∧ st.isU n := by
  obtain ⟨n, e, -, hw⟩ := DataW.trod_int Tryz.underlying24 h
  exact ⟨n, by simpa using e, bl.wf_u64 hw⟩
theorem bool_come {fuel : Nat} {v : Value} {y : DataW H × List MemPlace} (h : DataW.trod enc Tryz.prog w base spare held fuel 4 [v] = some y) : ∃ b : Bool, v = .bool b := by
  obtain ⟨b, e, -⟩ := DataW.trod_bool Tryz.underlying4 h
  exact ⟨b, by simpa using e⟩
theorem bytes_come {fuel : Nat} {v : Value} {y : DataW H × List MemPlace} (hsp : ∀ b, spare b = true) (h : DataW.trod enc Tryz.prog w base spare held fuel 25 [v] = some y) :
    ∃ a n c l, v = .slice a n c ∧ kt.Rd w a n l ∧ n ≤ 9223372036854775807 := by
  rcases open_ints Tryz.underlying25 Tryz.underlying5 (by kernel_rfl) h with ⟨hcs, _⟩ | ⟨x, l, c, zs, hcs, _, hl, hm, hz, _, hcell, hwz⟩
  · simp at hcs
    subst hcs
    exact ⟨none, 0, 0, [], rfl, kt.Rd.come (zs := []) (.inl ⟨rfl, rfl, rfl, rfl⟩), by omega⟩
  · simp at hcs
    subst hcs
    rw [hsp, if_pos rfl] at hz
    exact ⟨some x, l, c, _, rfl, kt.Rd.come (.inr ⟨x, rfl, hl, hm, hz, hcell, hwz⟩), by unfold maxLen at hm; omega⟩
theorem some_of {α : Type} {l : List α} {i : Nat} {a : Option α} (h : a = l[i]?) (hi : i < l.length) : ∃ y, a = some y := ⟨l[i], by rw [h, List.getElem?_eq_getElem hi]⟩
theorem cells_u32s : Tryz.prog.cellsOf 22 = 1 := by kernel_rfl
theorem cells_u64s : Tryz.prog.cellsOf 23 = 1 := by kernel_rfl
theorem cells_bool : Tryz.prog.cellsOf 4 = 1 := by kernel_rfl
theorem cells_u64 : Tryz.prog.cellsOf 24 = 1 := by kernel_rfl
theorem cells_u8s : Tryz.prog.cellsOf 25 = 1 := by kernel_rfl
theorem cells_start : Tryz.prog.cellsOf 27 = 5 := by kernel_rfl
theorem start_come {fuel : Nat} {cs : List Value} {y : DataW H × List MemPlace} (hsp : ∀ b, spare b = true) (h : DataW.trod enc Tryz.prog w base spare held fuel 27 cs = some y) :
    ∃ x : kt.Start, cs = x.cells.toList ∧ kt.StartOk w x := by
  obtain ⟨ys, n, _, _, hlen, hyl, hf⟩ := DataW.trod_struct Tryz.underlying27 h
  rw [cells_start] at hlen
  match cs, hlen with
  | [v0, v1, v2, v3, v4], _ =>
    have g0 : DataW.trod enc Tryz.prog w base spare held n 22 (([v0, v1, v2, v3, v4].drop 0).take (Tryz.prog.cellsOf 22)) = ys[0]? := hf 0 _ rfl
    have g1 : DataW.trod enc Tryz.prog w base spare held n 23 (([v0, v1, v2, v3, v4].drop 1).take (Tryz.prog.cellsOf 23)) = ys[1]? := hf 1 _ rfl
    have g2 : DataW.trod enc Tryz.prog w base spare held n 4 (([v0, v1, v2, v3, v4].drop 2).take (Tryz.prog.cellsOf 4)) = ys[2]? := hf 2 _ rfl
    have g3 : DataW.trod enc Tryz.prog w base spare held n 24 (([v0, v1, v2, v3, v4].drop 3).take (Tryz.prog.cellsOf 24)) = ys[3]? := hf 3 _ rfl
    have g4 : DataW.trod enc Tryz.prog w base spare held n 25 (([v0, v1, v2, v3, v4].drop 4).take (Tryz.prog.cellsOf 25)) = ys[4]? := hf 4 _ rfl
    rw [cells_u32s] at g0
    rw [cells_u64s] at g1
    rw [cells_bool] at g2
    rw [cells_u64] at g3
    rw [cells_u8s] at g4
    obtain ⟨y0, t0⟩ := some_of g0 (by rw [hyl]; decide)
    obtain ⟨y1, t1⟩ := some_of g1 (by rw [hyl]; decide)
    obtain ⟨y2, t2⟩ := some_of g2 (by rw [hyl]; decide)
    obtain ⟨y3, t3⟩ := some_of g3 (by rw [hyl]; decide)
    obtain ⟨y4, t4⟩ := some_of g4 (by rw [hyl]; decide)
    obtain ⟨ca, cn, cc, cf, e0, a0, b0⟩ := u32s_come hsp t0
    obtain ⟨ra, rn, rc, rf, e1, a1, b1⟩ := u64s_come hsp t1
    obtain ⟨far, e2⟩ := bool_come t2
    obtain ⟨at', e3, a3⟩ := u64_come t3
    obtain ⟨ba, bn, bc, bl, e4, a4, b4⟩ := bytes_come hsp t4
    refine ⟨⟨ca, cn, cc, cf, ra, rn, rc, rf, far, at', ba, bn, bc, bl⟩, ?_, ⟨a0, b0, a1, b1, a3, a4, b4⟩⟩
    subst e0 e1 e2 e3 e4
    rfl
end
theorem start_agg_come {H : Type} {enc : TypeId × Value → H} {w : World} {r : Reach} {b0 base : Nat} {held : Bool} {v : Value} {d : DataW H} {p : List MemPlace} (hv : Value.okWide Tryz.prog w r b0 27 v)
    (h : DataW.Trod enc Tryz.prog w base (fun _ => true) held 27 v d p) :
    ∃ x : kt.Start, v = .agg x.cells ∧ kt.StartOk w x := by
  obtain ⟨cs, rfl, hsz⟩ := okWide_struct Tryz.underlying27 hv
  obtain ⟨fuel, hf⟩ := h
  obtain ⟨x, hc, hx⟩ := start_come (fun _ => rfl) hf
  refine ⟨x, ?_, hx⟩
  congr 1
  apply Array.toList_inj.1
  simpa [Value.cells] using hc
end Go.Proofs.YtjjkocklpcdbkaaGreat
