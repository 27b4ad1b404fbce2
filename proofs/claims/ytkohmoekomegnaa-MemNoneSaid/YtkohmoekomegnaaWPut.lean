/- Put and Get, the program's and the reference's, each by a contract. -/
import Derived.Test.YtkohmoekomegnaaRows
import Derived.Handy
import Derived.Test.YtkohmoekomegnaaWBytes
import Derived.Test.YtkohmoekomegnaaOwn
namespace Go.Proofs.Ytkohmoekomegnaa
open Go.RowKit
set_option linter.unusedVariables false

theorem u8_info : (Try.prog.info? 5).map (fun i => (i.zero, i.size, i.bytes)) = some (some (.int .u8 0), 1, 1) := by kernel_rfl
/-- bytes in new memory -/
def BytesPost (l : List Int) (w : World) (e : Ending) (w' : World) : Prop :=
  ∃ a c, e = .returned (.tuple #[.slice a l.length c, .int .i64 0]) ∧ kt.Own kt.IsU8 w' w.heap.size 5 1 (.slice a l.length c) l.length (l.map (Value.int .u8)) ∧ Below w.heap.size w w'
theorem zero_u8 : ∀ c ∈ (Value.int .u8 0).cells.toList, kt.IsU8 c := by
  intro c hc
  simp [Value.cells] at hc
  exact ⟨0, by decide, by decide, hc⟩
theorem one_u8 {z : Int} (h0 : 0 ≤ z) (h1 : z < 256) : ∀ u ∈ [Value.int .u8 z], kt.IsU8 u := by
  intro u hu
  simp at hu
  exact ⟨z, h0, h1, hu⟩
theorem one_cell (k : IntKind) (z : Int) : ∀ u ∈ [Value.int k z], u.oneCell' = true := by
  intro u hu
  simp at hu
  subst hu
  rfl
theorem two_pow8 (k : Nat) : (2 : Int) ^ (8 * k) = 256 ^ k := by
  rw [Int.pow_mul]
  rfl
set_option maxHeartbeats 400000 in
theorem put1 (x : Int) (w : World) (x0 : 0 ≤ x) (x1 : x < 18446744073709551616) : Calls Try.prog 34 #[.int .u64 x, .int .i64 1] w (BytesPost (wd.leB x 1) w) := by
  obtain ⟨i0, hi, hz0, hz1, hz2⟩ := info_parts u8_info
  have hby : IntKind.u8.wrap x = x % 256 := IntKind.wrap_u8' x
  have hby2 : IntKind.u8.wrap (x % 256) = x % 256 := by rw [IntKind.wrap_u8']; omega
  have hnil := kt.Own.nil kt.IsU8 w w.heap.size 5 1
  go_enter Try.func34, Try.ntmps34
  go_wp2
  refine wp_loop_rounds 2 ?_
  rw [rounds_succ]
  go_wp2_with (at_builtin; refine kt.wpList_append_Own kt.IsU8 rfl _ _ 22 rfl w.heap.size 5 i0 (.int .u8 0) 1 1 Try.underlying22 hi hz0 hz1 hz2 rfl zero_u8 _ _ _ rfl (hnil.alloc _) ⟨w.heap.size, 0, none⟩ 1 1 [.int .u8 (x % 256)] rfl rfl (kt.one_new _ _ _) (one_cell _ _) (one_u8 (by omega) (by omega)) (by unfold maxLen; omega) (by omega) (by simp) ?_)
  intro v' w1 hown' hgrow
  have hB1 := (hnil.alloc _).below_grown (kt.below_row _) (by simp) hgrow
  have hR : kt.Own kt.IsU8 w1 w.heap.size 5 1 v' 1 ((wd.leB x 1).map (Value.int .u8)) := hown'
  clear hown' hgrow hnil
  go_wp2
  rw [rounds_succ]
  go_wp2
  go_ret2
  obtain ⟨a, c, hv⟩ := hR.shape
  exact ⟨a, c, bl.ret2 (by exact hv) rfl, by rw [wd.leB_length, ← hv]; exact hR, hB1⟩
set_option maxHeartbeats 400000 in
theorem put2 (x : Int) (w : World) (x0 : 0 ≤ x) (x1 : x < 18446744073709551616) : Calls Try.prog 34 #[.int .u64 x, .int .i64 2] w (BytesPost (wd.leB x 2) w) := by
  obtain ⟨i0, hi, hz0, hz1, hz2⟩ := info_parts u8_info
  go_enter Try.func34, Try.ntmps34
  go_wp2
  go_loopw [6, 12] (fun v i wr => ∃ k : Nat, k ≤ 2 ∧ i = .int .i64 k ∧ kt.Own kt.IsU8 wr w.heap.size 5 1 v k ((wd.leB x k).map (Value.int .u8)) ∧ Below w.heap.size w wr) (fun _ i _ => 2 - (intOf i).toNat)
  case atStart => exact ⟨0, by omega, rfl, kt.Own.nil _ _ _ _ _, Below.refl _ _⟩
  case round =>
    obtain ⟨k, hk, rfl, hown, hb⟩ := hrel
    have hby : IntKind.u8.wrap (x / 2 ^ (8 * k)) = x / 256 ^ k % 256 := by rw [IntKind.wrap_u8', two_pow8]
    have hsz := hb.size
    by_cases hlt : k < 2
    · have hd : decide ((k : Int) < 2) = true := decide_eq_true (by omega)
      have HL := bl.hid hlt
      clear hlt
      go_wp2_with (at_builtin; refine kt.wpList_append_Own kt.IsU8 rfl _ _ 22 rfl w.heap.size 5 i0 (.int .u8 0) 1 1 Try.underlying22 hi hz0 hz1 hz2 rfl zero_u8 _ _ _ rfl (hown.alloc _) ⟨wr.heap.size, 0, none⟩ 1 1 [.int .u8 (x / 256 ^ k % 256)] rfl rfl (kt.one_new _ _ _) (one_cell _ _) (one_u8 (by omega) (by omega)) (by unfold maxLen; omega) (by omega) (by simp; omega) ?_)
      intro v' w1 hown' hgrow
      have hB1 := (hown.alloc _).below_grown (hb.alloc hsz _) (by simp; omega) hgrow
      have hR : kt.Own kt.IsU8 w1 w.heap.size 5 1 v' (k + 1) ((wd.leB x (k + 1)).map (Value.int .u8)) := by
        rw [wd.leB_snoc, List.map_append]
        exact hown'
      clear hown' hgrow hown hb
      go_wp2
      go_roundw
      case rel => first | exact ⟨k + 1, HL.out, by go_num, hR, hB1⟩ | ((repeat apply Exists.intro); exact ⟨⟨k + 1, HL.out, by go_num, hR, hB1⟩, rfl⟩)
      case measure => have := HL.out; simp [intOf]; omega
    · obtain rfl : k = 2 := by omega
      go_wp2
      go_ret2
      obtain ⟨a, c, hv⟩ := hown.shape
      exact ⟨a, c, bl.ret2 (by exact hv) rfl, by rw [wd.leB_length, ← hv]; exact hown, hb⟩
set_option maxHeartbeats 400000 in
theorem put4 (x : Int) (w : World) (x0 : 0 ≤ x) (x1 : x < 18446744073709551616) : Calls Try.prog 34 #[.int .u64 x, .int .i64 4] w (BytesPost (wd.leB x 4) w) := by
  obtain ⟨i0, hi, hz0, hz1, hz2⟩ := info_parts u8_info
  go_enter Try.func34, Try.ntmps34
  go_wp2
  go_loopw [6, 12] (fun v i wr => ∃ k : Nat, k ≤ 4 ∧ i = .int .i64 k ∧ kt.Own kt.IsU8 wr w.heap.size 5 1 v k ((wd.leB x k).map (Value.int .u8)) ∧ Below w.heap.size w wr) (fun _ i _ => 4 - (intOf i).toNat)
  case atStart => exact ⟨0, by omega, rfl, kt.Own.nil _ _ _ _ _, Below.refl _ _⟩
  case round =>
    obtain ⟨k, hk, rfl, hown, hb⟩ := hrel
    have hby : IntKind.u8.wrap (x / 2 ^ (8 * k)) = x / 256 ^ k % 256 := by rw [IntKind.wrap_u8', two_pow8]
    have hsz := hb.size
    by_cases hlt : k < 4
    · have hd : decide ((k : Int) < 4) = true := decide_eq_true (by omega)
      have HL := bl.hid hlt
      clear hlt
      go_wp2_with (at_builtin; refine kt.wpList_append_Own kt.IsU8 rfl _ _ 22 rfl w.heap.size 5 i0 (.int .u8 0) 1 1 Try.underlying22 hi hz0 hz1 hz2 rfl zero_u8 _ _ _ rfl (hown.alloc _) ⟨wr.heap.size, 0, none⟩ 1 1 [.int .u8 (x / 256 ^ k % 256)] rfl rfl (kt.one_new _ _ _) (one_cell _ _) (one_u8 (by omega) (by omega)) (by unfold maxLen; omega) (by omega) (by simp; omega) ?_)
      intro v' w1 hown' hgrow
      have hB1 := (hown.alloc _).below_grown (hb.alloc hsz _) (by simp; omega) hgrow
      have hR : kt.Own kt.IsU8 w1 w.heap.size 5 1 v' (k + 1) ((wd.leB x (k + 1)).map (Value.int .u8)) := by
        rw [wd.leB_snoc, List.map_append]
        exact hown'
      clear hown' hgrow hown hb
      go_wp2
      go_roundw
      case rel => first | exact ⟨k + 1, HL.out, by go_num, hR, hB1⟩ | ((repeat apply Exists.intro); exact ⟨⟨k + 1, HL.out, by go_num, hR, hB1⟩, rfl⟩)
      case measure => have := HL.out; simp [intOf]; omega
    · obtain rfl : k = 4 := by omega
      go_wp2
      go_ret2
      obtain ⟨a, c, hv⟩ := hown.shape
      exact ⟨a, c, bl.ret2 (by exact hv) rfl, by rw [wd.leB_length, ← hv]; exact hown, hb⟩
set_option maxHeartbeats 400000 in
theorem put8 (x : Int) (w : World) (x0 : 0 ≤ x) (x1 : x < 18446744073709551616) : Calls Try.prog 34 #[.int .u64 x, .int .i64 8] w (BytesPost (wd.leB x 8) w) := by
  obtain ⟨i0, hi, hz0, hz1, hz2⟩ := info_parts u8_info
  go_enter Try.func34, Try.ntmps34
  go_wp2
  go_loopw [6, 12] (fun v i wr => ∃ k : Nat, k ≤ 8 ∧ i = .int .i64 k ∧ kt.Own kt.IsU8 wr w.heap.size 5 1 v k ((wd.leB x k).map (Value.int .u8)) ∧ Below w.heap.size w wr) (fun _ i _ => 8 - (intOf i).toNat)
  case atStart => exact ⟨0, by omega, rfl, kt.Own.nil _ _ _ _ _, Below.refl _ _⟩
  case round =>
    obtain ⟨k, hk, rfl, hown, hb⟩ := hrel
    have hby : IntKind.u8.wrap (x / 2 ^ (8 * k)) = x / 256 ^ k % 256 := by rw [IntKind.wrap_u8', two_pow8]
    have hsz := hb.size
    by_cases hlt : k < 8
    · have hd : decide ((k : Int) < 8) = true := decide_eq_true (by omega)
      have HL := bl.hid hlt
      clear hlt
      go_wp2_with (at_builtin; refine kt.wpList_append_Own kt.IsU8 rfl _ _ 22 rfl w.heap.size 5 i0 (.int .u8 0) 1 1 Try.underlying22 hi hz0 hz1 hz2 rfl zero_u8 _ _ _ rfl (hown.alloc _) ⟨wr.heap.size, 0, none⟩ 1 1 [.int .u8 (x / 256 ^ k % 256)] rfl rfl (kt.one_new _ _ _) (one_cell _ _) (one_u8 (by omega) (by omega)) (by unfold maxLen; omega) (by omega) (by simp; omega) ?_)
      intro v' w1 hown' hgrow
      have hB1 := (hown.alloc _).below_grown (hb.alloc hsz _) (by simp; omega) hgrow
      have hR : kt.Own kt.IsU8 w1 w.heap.size 5 1 v' (k + 1) ((wd.leB x (k + 1)).map (Value.int .u8)) := by
        rw [wd.leB_snoc, List.map_append]
        exact hown'
      clear hown' hgrow hown hb
      go_wp2
      go_roundw
      case rel => first | exact ⟨k + 1, HL.out, by go_num, hR, hB1⟩ | ((repeat apply Exists.intro); exact ⟨⟨k + 1, HL.out, by go_num, hR, hB1⟩, rfl⟩)
      case measure => have := HL.out; simp [intOf]; omega
    · obtain rfl : k = 8 := by omega
      go_wp2
      go_ret2
      obtain ⟨a, c, hv⟩ := hown.shape
      exact ⟨a, c, bl.ret2 (by exact hv) rfl, by rw [wd.leB_length, ← hv]; exact hown, hb⟩
end Go.Proofs.Ytkohmoekomegnaa
