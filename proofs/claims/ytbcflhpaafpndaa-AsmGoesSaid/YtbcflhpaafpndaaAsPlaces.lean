/- Places: where each line stands. -/
import Derived.Test.YtbcflhpaafpndaaAsCheck
import Derived.Test.YtbcflhpaafpndaaAsPlanned
namespace Go.Proofs.Ytbcflhpaafpndaa
open Go.RowKit
set_option linter.unusedVariables false
/-- what Places answers -/
structure PlacesPost (n : Nat) (ls : Nat → kt.Ln) (w : World) (e : Ending) (w' : World) : Prop where
  below : Below w.heap.size w w'
  bad : al.check ls n ≠ 0 → e = .returned (.tuple #[.slice none 0 0, .int .i64 (al.check ls n)])
  good : al.check ls n = 0 → ∃ base pv, e = .returned (.tuple #[pv, .int .i64 0]) ∧ w.heap.size ≤ base ∧ w'.ownsRow base 3 1 pv (n + 1) (placeVals ls (al.farE ls n) (n + 1))
theorem al.check_small (ls : Nat → kt.Ln) (n : Nat) (h : al.check ls n = 0) : n ≤ 4000 := by
  apply Classical.byContradiction
  intro hn
  unfold al.check at h
  rw [if_pos (by omega)] at h
  cases h
set_option maxRecDepth 100000 in
set_option maxHeartbeats 1600000 in
theorem places_any (a : Option Addr) (n c : Nat) (ls : Nat → kt.Ln) (w : World) (hl : kt.Lines w a n ls) :
    Calls Try.prog 17 #[.slice a n c] w (PlacesPost n ls w) := by
  have HL := bl.hid hl
  have HC := bl.hid (acheck_any a n c ls w hl)
  clear hl
  obtain ⟨q, hq⟩ : ∃ q, al.check ls n = q := ⟨_, rfl⟩
  rw [hq] at HC
  have HQ := bl.hid hq
  go_enter Try.func17, Try.ntmps17
  go_wp2_with fail
  refine HC.out.mono ?_
  rintro e w1 ⟨rfl, hb⟩
  have HB := bl.hid hb
  have hs := hb.size
  clear hb
  by_cases h0 : q = 0
  · subst h0
    have hn := al.check_small ls n hq
    have HP := bl.hid (planned_any a n c ls w1 hn (HL.out.keep HB.out))
    clear hq
    go_wp2_with fail
    refine HP.out.mono ?_
    rintro e w2 ⟨Pb, fa, fc, base, pv, Bm, rfl, h1, h2, h3, h4, h5⟩
    have c2 : w2.cell? ⟨Pb, 2, none⟩ = some pv := (cell_of_row _ _ _ _ _ _ h3.plan).trans rfl
    have HE : Hid (PlacesPost n ls w (.returned (.tuple #[pv, .int .i64 0])) w2) := bl.hid ⟨HB.out.trans (h5.mono hs), fun h => absurd HQ.out h, fun _ => ⟨base, pv, rfl, by omega, h3.own⟩⟩
    clear h1 h2 h3 h4 h5
    go_wp2
    go_ret2
    exact HE.out
  · have hq0 : (q == 0) = false := by simpa using h0
    have HE : Hid (PlacesPost n ls w (.returned (.tuple #[.slice none 0 0, .int .i64 q])) w1) := bl.hid ⟨HB.out, fun _ => by rw [HQ.out], fun h => absurd (HQ.out.symm.trans h) h0⟩
    clear hq h0
    go_wp2
    go_ret2
    exact HE.out
end Go.Proofs.Ytbcflhpaafpndaa
