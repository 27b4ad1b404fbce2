/- SameWords: two lists of words, element by element. -/
import Derived.Test.YtbcflhpaafpndaaAsSame
namespace Go.Proofs.Ytbcflhpaafpndaa
open Go.RowKit
set_option linter.unusedVariables false
set_option maxRecDepth 100000 in
set_option maxHeartbeats 1600000 in
theorem sameWords_any (a b : Option Addr) (n m c d : Nat) (f g : Nat → Int) (w : World) (hs : n ≤ 100000) (ha : NumsAt .u32 w a n f) (hb : NumsAt .u32 w b m g) :
    Calls Try.prog 23 #[.slice a n c, .slice b m d] w fun e w' => e = .returned (.bool (decide (n = m) && al.sameN f g n)) ∧ ∃ q, w' = w.drewN q := by
  by_cases hnm : n = m
  · subst hnm
    rw [decide_eq_true rfl]
    have HA := bl.hid ha
    have HB := bl.hid hb
    clear ha hb
    go_enter Try.func23, Try.ntmps23
    go_wp2
    go_loopw [5] (fun v wr => ∃ k : Nat, k ≤ n ∧ v = .int .i64 k ∧ al.sameN f g k = true ∧ ∃ q, wr = w.drewN q) (fun v _ => n - (intOf v).toNat)
    case atStart => exact ⟨0, by omega, rfl, rfl, 0, rfl⟩
    case round =>
      obtain ⟨k, hk, rfl, he, q, rfl⟩ := hrel
      by_cases hlt : k < n
      · rcases HA.out with h0 | ⟨ba, oa, rfl, hca⟩
        · omega
        rcases HB.out with h0 | ⟨bb, ob, rfl, hcb⟩
        · omega
        have ca := hca k hlt
        have cb := hcb k hlt
        obtain ⟨x, hx⟩ : ∃ x, f k = x := ⟨_, rfl⟩
        obtain ⟨y, hy⟩ : ∃ y, g k = y := ⟨_, rfl⟩
        rw [hx] at ca
        rw [hy] at cb
        have HX := bl.hid hx
        have HY := bl.hid hy
        have HE := bl.hid he
        have d1 : (0 : Int) ≤ (k : Int) := by omega
        have d2 : (k : Int) < (n : Int) := by omega
        clear hca hcb hx hy he
        by_cases hxy : x = y
        · subst hxy
          have HN : Hid (al.sameN f g (k + 1) = true) := bl.hid (by unfold al.sameN; rw [HE.out, HX.out, HY.out]; simp)
          go_wp2
          go_quiet (fail)
          go_wp2
          exact ⟨⟨k + 1, by omega, by go_num, HN.out, _, rfl⟩, by simp [intOf]; omega⟩
        · have hx1 : (x == y) = false := by simpa using hxy
          have HN : Hid (al.sameN f g n = false) := bl.hid (al.sameN_stop f g k (by rw [HX.out, HY.out]; exact hxy) n hlt)
          go_wp2
          go_quiet (fail)
          go_wp2
          go_ret
          exact ⟨by rw [HN.out]; rfl, _, World.drewN_drewN ..⟩
      · obtain rfl : k = n := by omega
        have HE := bl.hid he
        clear he
        go_wp2
        go_ret
        exact ⟨by rw [HE.out]; rfl, q, rfl⟩
  · have hd : decide (n = m) = false := decide_eq_false hnm
    have h1 : ((n : Int) == (m : Int)) = false := by simpa using (by omega : (n : Int) ≠ m)
    rw [hd]
    clear ha hb
    go_enter Try.func23, Try.ntmps23
    go_wp2
    go_ret
    exact ⟨rfl, 0, rfl⟩
end Go.Proofs.Ytbcflhpaafpndaa
