/- Bytes(16, 112) of a machine's memory. -/
import Derived.Test.YtjjkocklpcdbkaaStLittleP
namespace Go.Proofs.Ytjjkocklpcdbkaa
open Go.RowKit
set_option linter.unusedVariables false
set_option maxRecDepth 100000
theorem byL_at (l : List Int) (h : l.length = 128) : pl.byE l 16 112 = 0 ∧ (pl.byL l 16 112).length = 112 ∧ ∀ i, i < 112 → (pl.byL l 16 112).getD i 0 = st.byteAt l i := by
  have hf : pl.fit l 16 112 = true := decide_eq_true (by omega)
  refine ⟨?_, ?_, fun i hi => ?_⟩
  · unfold pl.byE
    rw [hf]
    rfl
  · unfold pl.byL
    rw [hf, if_pos rfl, List.length_take, List.length_drop, h]
    decide
  · unfold pl.byL st.byteAt
    rw [hf, if_pos rfl]
    simp only [List.getD_eq_getElem?_getD]
    rw [List.getElem?_take_of_lt (by show i < 112; omega), List.getElem?_drop]
    rfl
theorem bytes16_any (w : World) (P : st.Pl) (code : Nat → st.Told) (s : st.S) (h : IsMach w P code s) (hl : s.l.length = 128) :
    Calls Try.prog 19 #[.pointer (some ⟨P.mp, 0, none⟩), .int .u64 16, .int .i64 112] w fun e w' => ∃ g c, e = .returned (.tuple #[.slice (some ⟨g, 0, none⟩) 112 c, .int .i64 0]) ∧ w.heap.size ≤ g ∧ g < w'.heap.size ∧ (∀ i, i < 112 → w'.cell? ⟨g, i, none⟩ = some (.int .u8 (st.byteAt s.l i))) ∧ Below w.heap.size w w' := by
  obtain ⟨h1, h2, h3⟩ := byL_at s.l hl
  have hb := bytes_any P.mp P.g 16 112 s.l w h.mem (by decide) (by decide) (by decide)
  refine hb.mono ?_
  rintro e w' ⟨a, c, rfl, ho, hbl⟩
  rw [h1, h2] at *
  have hrd := Rd_own (pl.byL_bytes h.mem.bytes 16 112) ho
  rcases ho.2 with ⟨_, h0⟩ | ⟨g, cap, cur, he, hg, hrow, _⟩
  · omega
  · injection he with he _ _
    subst he
    rcases hrd.2.2 with h0 | ⟨b, off, e2, hc⟩
    · omega
    · injection e2 with e2
      injection e2 with e3 e4
      subst e3 e4
      refine ⟨g, c, rfl, hg, (Array.getElem?_eq_some_iff.1 hrow).1, fun i hi => ?_, hbl⟩
      have := hc i hi
      rw [Nat.zero_add, h3 i hi] at this
      exact this
end Go.Proofs.Ytjjkocklpcdbkaa
