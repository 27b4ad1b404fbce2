/- The reference's memory: Bytes, by a contract. -/
import Derived.Test.YtkohmoekomegnaaMemRef2
namespace Go.Proofs.Ytkohmoekomegnaa
open Go.RowKit
set_option linter.unusedVariables false

set_option maxHeartbeats 400000 in
theorem rbytes_ok (p g at' n : Nat) (l : List Int) (w : World) (h : IsRef w p g l) (n0 : 0 < n) (a0 : 16 ≤ at') (a1 : at' + n ≤ l.length) :
    Calls Try.prog 38 #[.pointer (some ⟨p, 0, none⟩), .int .u64 at', .int .i64 n] w (TellPost ((l.drop at').take n) 0 w) := by
  obtain ⟨i0, hi, hz0, hz1, hz2⟩ := info_parts u8_info
  have hemp := kt.Own.empty kt.IsU8 w 5 1
  obtain ⟨cap, hcap, hc⟩ := h.cell
  have hc2 : (w.alloc (.cells #[] 5)).cell? ⟨p, 0, none⟩ = some (.slice (some ⟨g, 0, none⟩) l.length cap) := ((kt.below_row _).cell (p := ⟨p, 0, none⟩) h.lt.1).trans hc
  have hR := (h.keep (kt.below_row (.cells #[] 5))).rd at' n a1
  have hL := h.size
  have HF : Hid (pl.fit l at' n = true) := bl.hid (decide_eq_true (by omega))
  obtain ⟨bs, hbs⟩ : ∃ bs, (l.drop at').take n = bs := ⟨_, rfl⟩
  rw [hbs] at hR ⊢
  have HR := bl.hid hR
  have hl := bl.hid hR.1
  have HB := bl.hid hR.2.1
  have hnl : decide ((n : Int) < 0) = false := decide_eq_false (by omega)
  have hac : at' < cap := by omega
  clear hR hbs h
  go_enter Try.func38, Try.ntmps38
  go_wp2_with fail
  refine (rfits_any p g 0 cap l at' n _ hc hL (by omega) (by omega) (by omega)).mono ?_
  rw [HF.out]
  rintro e w' ⟨rfl, rfl⟩
  go_wp2_with (at_builtin; refine kt.wpList_append_Own kt.IsU8 rfl _ _ 22 rfl w.heap.size 5 i0 (.int .u8 0) 1 1 Try.underlying22 hi hz0 hz1 hz2 rfl zero_u8 _ 0 [] rfl hemp ⟨g, at', none⟩ n _ (bs.map (Value.int .u8)) (by show Value.slice _ (at' + n - at') _ = _; rw [Nat.add_sub_cancel_left]) (by have := hl.out; simp; omega) HR.out.cells kt.u8_one (kt.u8_all HB.out) (by unfold maxLen; omega) (by omega) (by simp) ?_)
  intro v' w1 hown' hgrow
  have hB1 := hemp.below_grown (kt.below_row _) (by simp) hgrow
  try simp only [Nat.zero_add, List.nil_append] at hown'
  have HO := bl.hid hown'
  clear hown' hgrow
  go_wp2
  go_ret2
  obtain ⟨a', c', hv⟩ := HO.out.shape
  exact ⟨a', c', bl.ret2 (by rw [hl.out]; exact hv) rfl, by rw [hl.out, ← hv]; exact HO.out, hB1⟩
set_option maxHeartbeats 400000 in
theorem rbytes_ok0 (p g at' : Nat) (l : List Int) (w : World) (h : IsRef w p g l) (a0 : 16 ≤ at') (a1 : at' ≤ l.length) :
    Calls Try.prog 38 #[.pointer (some ⟨p, 0, none⟩), .int .u64 at', .int .i64 0] w (TellPost [] 0 w) := by
  obtain ⟨i0, hi, hz0, hz1, hz2⟩ := info_parts u8_info
  have hemp := kt.Own.empty kt.IsU8 w 5 1
  obtain ⟨cap, hcap, hc⟩ := h.cell
  have hc2 : (w.alloc (.cells #[] 5)).cell? ⟨p, 0, none⟩ = some (.slice (some ⟨g, 0, none⟩) l.length cap) := ((kt.below_row _).cell (p := ⟨p, 0, none⟩) h.lt.1).trans hc
  have hL := h.size
  have HF : Hid (pl.fit l at' 0 = true) := bl.hid (decide_eq_true (by omega))
  clear h
  by_cases hlt : at' < cap
  · go_enter Try.func38, Try.ntmps38
    go_wp2_with fail
    refine (rfits_any p g 0 cap l at' 0 _ hc hL (by omega) (by omega) (by omega)).mono ?_
    rw [HF.out]
    rintro e w' ⟨rfl, rfl⟩
    go_wp2_with (at_builtin; refine kt.wpList_append_Own kt.IsU8 rfl _ _ 22 rfl w.heap.size 5 i0 (.int .u8 0) 1 1 Try.underlying22 hi hz0 hz1 hz2 rfl zero_u8 _ 0 [] rfl hemp ⟨g, at', none⟩ 0 _ [] rfl rfl (by simp) (by simp) (by simp) (by unfold maxLen; omega) (by omega) (by simp) ?_)
    intro v' w1 hown' hgrow
    have hB1 := hemp.below_grown (kt.below_row _) (by simp) hgrow
    have HO := bl.hid hown'
    clear hown' hgrow
    go_wp2
    go_ret2
    obtain ⟨a', c', hv⟩ := HO.out.shape
    exact ⟨a', c', bl.ret2 hv rfl, by have := HO.out; rw [hv] at this; exact this, hB1⟩
  · obtain rfl : at' = cap := by omega
    clear hlt
    go_enter Try.func38, Try.ntmps38
    go_wp2_with fail
    refine (rfits_any p g 0 at' l at' 0 _ hc hL (by omega) (by omega) (by omega)).mono ?_
    rw [HF.out]
    rintro e w' ⟨rfl, rfl⟩
    go_wp2_with (at_builtin; refine kt.wpList_append_Own kt.IsU8 rfl _ _ 22 rfl w.heap.size 5 i0 (.int .u8 0) 1 1 Try.underlying22 hi hz0 hz1 hz2 rfl zero_u8 _ 0 [] rfl hemp ⟨g, 0, none⟩ 0 _ [] rfl rfl (by simp) (by simp) (by simp) (by unfold maxLen; omega) (by omega) (by simp) ?_)
    intro v' w1 hown' hgrow
    have hB1 := hemp.below_grown (kt.below_row _) (by simp) hgrow
    have HO := bl.hid hown'
    clear hown' hgrow
    go_wp2
    go_ret2
    obtain ⟨a', c', hv⟩ := HO.out.shape
    exact ⟨a', c', bl.ret2 hv rfl, by have := HO.out; rw [hv] at this; exact this, hB1⟩
theorem rbytes_any (p g : Nat) (at' n : Int) (l : List Int) (w : World) (h : IsRef w p g l) (a0 : 0 ≤ at') (a1 : at' < 18446744073709551616) (n1 : n < 9223372036854775808) :
    Calls Try.prog 38 #[.pointer (some ⟨p, 0, none⟩), .int .u64 at', .int .i64 n] w (TellPost (pl.byL l at' n) (pl.byE l at' n) w) := by
  by_cases hn : 0 ≤ n
  · obtain ⟨k, rfl⟩ : ∃ k : Nat, n = k := ⟨n.toNat, by omega⟩
    by_cases hf : 16 ≤ at' ∧ 0 ≤ (k : Int) ∧ at' + k ≤ l.length
    · have hff : pl.fit l at' k = true := decide_eq_true hf
      obtain ⟨b, rfl⟩ : ∃ b : Nat, at' = b := ⟨at'.toNat, by omega⟩
      rw [show pl.byL l b k = (l.drop b).take k by simp [pl.byL, hff], show pl.byE l b k = 0 by simp [pl.byE, hff]]
      by_cases h0 : k = 0
      · subst h0
        exact rbytes_ok0 p g b l w h (by omega) (by omega)
      · exact rbytes_ok p g b k l w h (by omega) (by omega) (by omega)
    · have hff : pl.fit l at' k = false := decide_eq_false hf
      rw [show pl.byL l at' k = [] by simp [pl.byL, hff], show pl.byE l at' k = 15 by simp [pl.byE, hff]]
      obtain ⟨cap, hcap, hc⟩ := h.cell
      have hL := h.size
      have HF := bl.hid hff
      have hnl : decide ((k : Int) < 0) = false := decide_eq_false (by omega)
      clear h hff hf hn
      go_enter Try.func38, Try.ntmps38
      go_wp2_with fail
      refine (rfits_any p g 0 cap l at' k _ hc hL a0 a1 n1).mono ?_
      rw [HF.out]
      rintro e w' ⟨rfl, rfl⟩
      go_wp2
      go_ret2
      exact ⟨none, 0, rfl, own_nil _ _ [] rfl, Below.refl _ _⟩
  · have hff : pl.fit l at' n = false := decide_eq_false (by omega)
    rw [show pl.byL l at' n = [] by simp [pl.byL, hff], show pl.byE l at' n = 2 by simp [pl.byE, hn]]
    have hnl : decide (n < 0) = true := decide_eq_true (by omega)
    clear h hff hn
    go_enter Try.func38, Try.ntmps38
    go_wp2
    go_ret2
    exact ⟨none, 0, rfl, own_nil _ _ [] rfl, Below.refl _ _⟩
end Go.Proofs.Ytkohmoekomegnaa
