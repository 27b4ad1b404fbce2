/- apart: a branch, so many times nothing, and its label. -/
import Derived.Test.YtbcflhpaafpndaaAsList
import Derived.Test.YtbcflhpaafpndaaAsAwake
namespace Go.Proofs.Ytbcflhpaafpndaa
open Go.RowKit
set_option linter.unusedVariables false
namespace al
open kt
def apartL (n : Nat) : List Ln := (branchL :: List.replicate n nothingL) ++ [labelL 1]
theorem rep_succ (k : Nat) : branchL :: List.replicate (k + 1) nothingL = (branchL :: List.replicate k nothingL) ++ [nothingL] := by
  rw [List.replicate_succ']
  rfl
end al
set_option maxRecDepth 100000 in
set_option maxHeartbeats 1600000 in
theorem apart_any (n : Nat) (hn : n ≤ 2000) (w : World) : Calls Try.prog 8 #[.int .i64 n] w (ListPost (al.apartL n) w) := by
  have HLa : Hid (∀ w, Calls Try.prog 11 #[.int .i64 1] w fun e w' => e = .returned (.agg #[.int .i64 1, .int .i64 1, .int .i64 0, .int .i64 0, .int .i64 0, .int .i64 0, .int .i64 0]) ∧ Below w.heap.size w w') := bl.hid (label_any 1)
  have HNo : Hid (∀ w, Calls Try.prog 14 #[] w fun e w' => e = .returned (.agg #[.int .i64 0, .int .i64 0, .int .i64 22, .int .i64 0, .int .i64 0, .int .i64 0, .int .i64 0]) ∧ Below w.heap.size w w') := bl.hid nothing_any
  have HBr : Hid (∀ w, Calls Try.prog 12 #[] w fun e w' => e = .returned (.agg #[.int .i64 2, .int .i64 1, .int .i64 5, .int .i64 0, .int .i64 1, .int .i64 2, .int .i64 0]) ∧ Below w.heap.size w w') := bl.hid branch_any
  obtain ⟨zi, hzi, hz0, hz1, hz2⟩ := info_parts line_parts
  have HZi : Hid (Try.prog.info? 35 = some zi ∧ zi.zero = some (.agg #[.int .i64 0, .int .i64 0, .int .i64 0, .int .i64 0, .int .i64 0, .int .i64 0, .int .i64 0]) ∧ zi.size = 7 ∧ zi.bytes = 56) := bl.hid ⟨hzi, hz0, hz1, hz2⟩
  clear hzi hz0 hz1 hz2
  go_enter Try.func8, Try.ntmps8
  go_wp2_with fail
  refine (HBr.out _).mono ?_
  rintro e w1 ⟨rfl, h1⟩
  have s1 := h1.size
  have hO0 := World.ownsRow_lit (base := w.heap.size) (e := 35) (size := 7) w1 #[.int .i64 2, .int .i64 1, .int .i64 5, .int .i64 0, .int .i64 1, .int .i64 2, .int .i64 0] 1 s1 (by unfold maxLen; omega) rfl
  have hB0 : Below w.heap.size w (w1.alloc (.cells #[.int .i64 2, .int .i64 1, .int .i64 5, .int .i64 0, .int .i64 1, .int .i64 2, .int .i64 0] 35)) := h1.alloc s1 _
  have HO0 := bl.hid hO0
  have HB0 := bl.hid hB0
  clear h1 hO0 hB0
  go_wp2
  go_loopw [3, 4] (fun u v wr => ∃ k : Nat, k ≤ n ∧ v = .int .i64 k ∧ Below w.heap.size w wr ∧ wr.ownsRow w.heap.size 35 7 u (k + 1) (kt.lnFlat (al.branchL :: List.replicate k al.nothingL))) (fun _ v _ => n - (intOf v).toNat)
  case atStart => exact ⟨0, by omega, rfl, HB0.out, HO0.out⟩
  case round =>
    obtain ⟨k, hk, rfl, hb, ho⟩ := hrel
    have HB := bl.hid hb
    have HO := bl.hid ho
    have hsz := hb.size
    clear hb ho
    by_cases hlt : k < n
    · go_wp2_with fail
      refine (HNo.out _).mono ?_
      rintro e w2 ⟨rfl, h2⟩
      have s2 := h2.size
      have HB2 : Hid (Below w.heap.size w w2) := bl.hid (HB.out.trans (h2.mono hsz))
      have HO2 := bl.hid (own_below HO.out h2)
      clear h2
      have HNw := bl.hid (World.news_of_block (heap_alloc_new w2 (.cells #[.int .i64 0, .int .i64 0, .int .i64 22, .int .i64 0, .int .i64 0, .int .i64 0, .int .i64 0] 35)))
      have HOne : Hid (∀ u ∈ [Value.int .i64 0, .int .i64 0, .int .i64 22, .int .i64 0, .int .i64 0, .int .i64 0, .int .i64 0], u.oneCell' = true) := bl.hid (by intro u hu; simp at hu; rcases hu with rfl | rfl | rfl <;> rfl)
      go_wp2_with (at_builtin; refine wpList_append_lies _ rfl _ _ 26 rfl w.heap.size 35 zi (.agg #[.int .i64 0, .int .i64 0, .int .i64 0, .int .i64 0, .int .i64 0, .int .i64 0, .int .i64 0]) 7 56 Try.underlying26 HZi.out.1 HZi.out.2.1 HZi.out.2.2.1 HZi.out.2.2.2 rfl (by decide) _ (k + 1) (kt.lnFlat (al.branchL :: List.replicate k al.nothingL)) rfl (HO2.out.alloc _) ⟨w2.heap.size, 0, none⟩ 1 1 [.int .i64 0, .int .i64 0, .int .i64 22, .int .i64 0, .int .i64 0, .int .i64 0, .int .i64 0] rfl rfl HNw.out HOne.out (by omega) ?c3 ?c4 ?c5 (w2.heap.size + 1) (World.size_alloc _ _) ?_)
      case c3 => unfold maxLen; omega
      case c4 => omega
      case c5 => rw [World.size_alloc]; omega
      intro g cap w' h1 h2 h3 h4
      have HO' : Hid (w'.ownsRow w.heap.size 35 7 (.slice (some ⟨g, 0, none⟩) (k + 1 + 1) cap) (k + 1 + 1) (kt.lnFlat (al.branchL :: List.replicate (k + 1) al.nothingL))) := bl.hid (by
        rw [al.rep_succ, kt.lnFlat_app]
        exact h1)
      have HB' : Hid (Below w.heap.size w w') := bl.hid ((HB2.out.alloc (by omega) _).grown h2 (by rw [World.size_alloc]; omega) (fun j hj => (HO2.out.lt j hj).1))
      clear h1 h2 h3 h4
      go_wp2
      exact ⟨⟨k + 1, by omega, by go_num, HB'.out, HO'.out⟩, by simp [intOf]; omega⟩
    · obtain rfl : k = n := by omega
      go_wp2_with fail
      refine (HLa.out _).mono ?_
      rintro e w2 ⟨rfl, h2⟩
      have s2 := h2.size
      have HB2 : Hid (Below w.heap.size w w2) := bl.hid (HB.out.trans (h2.mono hsz))
      have HO2 := bl.hid (own_below HO.out h2)
      clear h2
      have HNw := bl.hid (World.news_of_block (heap_alloc_new w2 (.cells #[.int .i64 1, .int .i64 1, .int .i64 0, .int .i64 0, .int .i64 0, .int .i64 0, .int .i64 0] 35)))
      have HOne : Hid (∀ u ∈ [Value.int .i64 1, .int .i64 1, .int .i64 0, .int .i64 0, .int .i64 0, .int .i64 0, .int .i64 0], u.oneCell' = true) := bl.hid (by intro u hu; simp at hu; rcases hu with rfl | rfl <;> rfl)
      go_wp2_with (at_builtin; refine wpList_append_lies _ rfl _ _ 26 rfl w.heap.size 35 zi (.agg #[.int .i64 0, .int .i64 0, .int .i64 0, .int .i64 0, .int .i64 0, .int .i64 0, .int .i64 0]) 7 56 Try.underlying26 HZi.out.1 HZi.out.2.1 HZi.out.2.2.1 HZi.out.2.2.2 rfl (by decide) _ (k + 1) (kt.lnFlat (al.branchL :: List.replicate k al.nothingL)) rfl (HO2.out.alloc _) ⟨w2.heap.size, 0, none⟩ 1 1 [.int .i64 1, .int .i64 1, .int .i64 0, .int .i64 0, .int .i64 0, .int .i64 0, .int .i64 0] rfl rfl HNw.out HOne.out (by omega) ?c3 ?c4 ?c5 (w2.heap.size + 1) (World.size_alloc _ _) ?_)
      case c3 => unfold maxLen; omega
      case c4 => omega
      case c5 => rw [World.size_alloc]; omega
      intro g cap w' h1 h2 h3 h4
      have HE : Hid (ListPost (al.apartL k) w (.returned (.slice (some ⟨g, 0, none⟩) (k + 1 + 1) cap)) w') := bl.hid (by
        refine ⟨_, rfl, ?_, (HB2.out.alloc (by omega) _).grown h2 (by rw [World.size_alloc]; omega) (fun j hj => (HO2.out.lt j hj).1)⟩
        have hl : (al.apartL k).length = k + 1 + 1 := by unfold al.apartL; simp
        rw [hl]
        unfold al.apartL
        rw [kt.lnFlat_app]
        exact h1)
      clear h1 h2 h3 h4
      go_wp2
      go_ret
      exact HE.out
end Go.Proofs.Ytbcflhpaafpndaa
