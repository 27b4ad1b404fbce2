/- Get, the program's and the reference's; Put at no size; bytes compared: each by a contract. -/
import Derived.Test.YtkohmoekomegnaaWPut
namespace Go.Proofs.Ytkohmoekomegnaa
open Go.RowKit
set_option linter.unusedVariables false

theorem get_step (X c : Int) (k : Nat) (hk : k < 8) (X0 : 0 ≤ X) (X1 : X < 256 ^ k) (c0 : 0 ≤ c) (c1 : c < 256) :
    bits .or .u64 X (IntKind.u64.wrap (IntKind.u64.wrap c * 2 ^ (8 * k))) = X + 256 ^ k * c := by
  obtain ⟨x, rfl⟩ := Int.eq_ofNat_of_zero_le X0
  obtain ⟨d, rfl⟩ := Int.eq_ofNat_of_zero_le c0
  have hp : (2 : Int) ^ (8 * k) = 256 ^ k := two_pow8 k
  have hq : (256 : Int) ^ k = ((256 ^ k : Nat) : Int) := by simp
  have hq2 : (256 : Nat) ^ k = 2 ^ (8 * k) := by rw [Nat.pow_mul]
  have hx : x < 256 ^ k := by rw [hq] at X1; exact_mod_cast X1
  have hm : 256 ^ k * d < 18446744073709551616 := by
    have h1 : 256 ^ k ≤ 256 ^ 7 := Nat.pow_le_pow_right (by decide) (by omega)
    have h2 : 256 ^ k * d ≤ 256 ^ 7 * 255 := Nat.mul_le_mul h1 (by omega)
    have h3 : (256 : Nat) ^ 7 * 255 = 18374686479671623680 := by decide
    omega
  have hX : x < 18446744073709551616 := by
    have h1 : 256 ^ k ≤ 256 ^ 7 := Nat.pow_le_pow_right (by decide) (by omega)
    have h3 : (256 : Nat) ^ 7 = 72057594037927936 := by decide
    omega
  have e1 : IntKind.u64.wrap ((d : Nat) : Int) = (d : Int) := by rw [IntKind.wrap_u64]; omega
  have e2 : IntKind.u64.wrap (((d : Nat) : Int) * 2 ^ (8 * k)) = ((256 ^ k * d : Nat) : Int) := by
    rw [IntKind.wrap_u64, hp, hq, ← Int.natCast_mul, Nat.mul_comm d]
    omega
  rw [e1, e2, u64_or_nat _ _ hX hm, Nat.or_comm, nat_join (8 * k) (256 ^ k * d) x (by rw [hq2]; exact Nat.mul_mod_right _ _) (by rw [← hq2]; exact hx), hq, ← Int.natCast_mul]
  omega
theorem leV_bd8 (l : List Int) (h : wd.isBytes l) (hn : l.length ≤ 8) : 0 ≤ wd.leV l ∧ wd.leV l < 18446744073709551616 := by
  have h1 := wd.leV_bd l h
  have h2 : (256 : Nat) ^ l.length ≤ 256 ^ 8 := Nat.pow_le_pow_right (by decide) hn
  have h3 : (256 : Nat) ^ 8 = 18446744073709551616 := rfl
  have h4 : (256 : Int) ^ l.length = ((256 ^ l.length : Nat) : Int) := by rw [Int.natCast_pow]; rfl
  rw [h4] at h1
  omega
theorem get1 (a : Option Addr) (c : Nat) (l : List Int) (w : World) (h : kt.Rd w a 1 l) : Calls Try.prog 44 #[.slice a 1 c] w fun e w' => e = .returned (.tuple #[.int .u64 (wd.leV l), .int .i64 0]) ∧ w = w' := by
  obtain ⟨h1, hb, h3⟩ := h
  rcases h3 with h3 | ⟨b, off, rfl, hc⟩
  · cases h3
  obtain ⟨d, rfl⟩ : ∃ d, l = [d] := by
    match l, h1 with
    | [d], _ => exact ⟨d, rfl⟩
  have hcell : w.cell? ⟨b, off, none⟩ = some (.int .u8 d) := hc 0 (by omega)
  have hst : bits .or .u64 0 (IntKind.u64.wrap d) = d := by
    have := get_step 0 d 0 (by omega) (by omega) (by simp) (hb d (by simp)).1 (hb d (by simp)).2
    have e := (hb d (by simp))
    rw [show IntKind.u64.wrap d = d by rw [IntKind.wrap_u64]; omega] at this ⊢
    simpa [show IntKind.u64.wrap d = d by rw [IntKind.wrap_u64]; omega] using this
  have hv : wd.leV [d] = d := by simp [wd.leV]
  have d0 := (hb d (by simp)).1
  have d1 := (hb d (by simp)).2
  rw [show IntKind.u64.wrap d = d by rw [IntKind.wrap_u64]; omega] at hst
  rw [hv]
  clear hc hb h1 hv
  go_enter Try.func44, Try.ntmps44
  go_wp2
  refine wp_loop_rounds 2 ?_
  rw [rounds_succ]
  go_wp2
  rw [rounds_succ]
  go_wp2
  go_ret2
  exact ⟨rfl, rfl⟩
set_option maxHeartbeats 400000 in
theorem get2 (a : Option Addr) (c : Nat) (l : List Int) (w : World) (h : kt.Rd w a 2 l) : Calls Try.prog 44 #[.slice a 2 c] w fun e w' => e = .returned (.tuple #[.int .u64 (wd.leV l), .int .i64 0]) ∧ w = w' := by
  obtain ⟨h1, hb, h3⟩ := h
  rcases h3 with h3 | ⟨b, off, rfl, hc⟩
  · cases h3
  have hc' := bl.hid hc
  have hb' := bl.hid hb
  have h1' := bl.hid h1
  clear hc hb h1
  go_enter Try.func44, Try.ntmps44
  go_wp2
  go_loop [4, 18] (fun x i => ∃ k : Nat, k ≤ 2 ∧ i = .int .i64 k ∧ x = .int .u64 (wd.leV (l.take k))) (fun _ i => (2 - intOf i).toNat)
  case atStart => exact ⟨0, by omega, rfl, rfl⟩
  case round =>
    obtain ⟨k, hk, rfl, rfl⟩ := hrel
    by_cases hlt : k < 2
    · have hd : decide ((k : Int) < 2) = true := decide_eq_true (by omega)
      obtain ⟨d, hdd⟩ : ∃ d, l.getD k 0 = d := ⟨_, rfl⟩
      have hcell : w.cell? ⟨b, off + k, none⟩ = some (.int .u8 d) := by rw [← hdd]; exact hc'.out k hlt
      have hst := get_step (wd.leV (l.take k)) d k (by omega) (wd.leV_bd _ (wd.isBytes_take hb'.out k)).1 (by have := (wd.leV_bd _ (wd.isBytes_take hb'.out k)).2; rwa [List.length_take, Nat.min_eq_left (by have := h1'.out; omega)] at this) (by rw [← hdd]; exact (wd.isBytes_getD hb'.out k).1) (by rw [← hdd]; exact (wd.isBytes_getD hb'.out k).2)
      have hnx : wd.leV (l.take (k + 1)) = wd.leV (l.take k) + 256 ^ k * d := by rw [← hdd]; exact wd.leV_take l k (by have := h1'.out; omega)
      have HN := bl.hid hnx
      have HL := bl.hid hlt
      obtain ⟨X, hX⟩ : ∃ X, wd.leV (l.take k) = X := ⟨_, rfl⟩
      rw [hX] at hst
      have HX := bl.hid hX
      have hk2 : k ≤ 1 := by omega
      clear hnx hlt hdd
      rw [hX]
      clear hX
      go_wp2
      go_round
      case rel => first | exact ⟨k + 1, HL.out, by go_num, bl.int_eq (by rw [HN.out, HX.out])⟩ | ((repeat apply Exists.intro); refine ⟨⟨k + 1, HL.out, by go_num, bl.int_eq (by rw [HN.out, HX.out])⟩, ?_⟩; and_intros <;> rfl)
      case measure => have := HL.out; simp [intOf]; omega
    · obtain rfl : k = 2 := by omega
      go_wp2
      go_ret2
      exact ⟨bl.ret2 (bl.int_eq (by rw [List.take_of_length_le (by have := h1'.out; omega)])) rfl, rfl⟩
set_option maxHeartbeats 400000 in
theorem get4 (a : Option Addr) (c : Nat) (l : List Int) (w : World) (h : kt.Rd w a 4 l) : Calls Try.prog 44 #[.slice a 4 c] w fun e w' => e = .returned (.tuple #[.int .u64 (wd.leV l), .int .i64 0]) ∧ w = w' := by
  obtain ⟨h1, hb, h3⟩ := h
  rcases h3 with h3 | ⟨b, off, rfl, hc⟩
  · cases h3
  have hc' := bl.hid hc
  have hb' := bl.hid hb
  have h1' := bl.hid h1
  clear hc hb h1
  go_enter Try.func44, Try.ntmps44
  go_wp2
  go_loop [4, 18] (fun x i => ∃ k : Nat, k ≤ 4 ∧ i = .int .i64 k ∧ x = .int .u64 (wd.leV (l.take k))) (fun _ i => (4 - intOf i).toNat)
  case atStart => exact ⟨0, by omega, rfl, rfl⟩
  case round =>
    obtain ⟨k, hk, rfl, rfl⟩ := hrel
    by_cases hlt : k < 4
    · have hd : decide ((k : Int) < 4) = true := decide_eq_true (by omega)
      obtain ⟨d, hdd⟩ : ∃ d, l.getD k 0 = d := ⟨_, rfl⟩
      have hcell : w.cell? ⟨b, off + k, none⟩ = some (.int .u8 d) := by rw [← hdd]; exact hc'.out k hlt
      have hst := get_step (wd.leV (l.take k)) d k (by omega) (wd.leV_bd _ (wd.isBytes_take hb'.out k)).1 (by have := (wd.leV_bd _ (wd.isBytes_take hb'.out k)).2; rwa [List.length_take, Nat.min_eq_left (by have := h1'.out; omega)] at this) (by rw [← hdd]; exact (wd.isBytes_getD hb'.out k).1) (by rw [← hdd]; exact (wd.isBytes_getD hb'.out k).2)
      have hnx : wd.leV (l.take (k + 1)) = wd.leV (l.take k) + 256 ^ k * d := by rw [← hdd]; exact wd.leV_take l k (by have := h1'.out; omega)
      have HN := bl.hid hnx
      have HL := bl.hid hlt
      obtain ⟨X, hX⟩ : ∃ X, wd.leV (l.take k) = X := ⟨_, rfl⟩
      rw [hX] at hst
      have HX := bl.hid hX
      have hk2 : k ≤ 3 := by omega
      clear hnx hlt hdd
      rw [hX]
      clear hX
      go_wp2
      go_round
      case rel => first | exact ⟨k + 1, HL.out, by go_num, bl.int_eq (by rw [HN.out, HX.out])⟩ | ((repeat apply Exists.intro); refine ⟨⟨k + 1, HL.out, by go_num, bl.int_eq (by rw [HN.out, HX.out])⟩, ?_⟩; and_intros <;> rfl)
      case measure => have := HL.out; simp [intOf]; omega
    · obtain rfl : k = 4 := by omega
      go_wp2
      go_ret2
      exact ⟨bl.ret2 (bl.int_eq (by rw [List.take_of_length_le (by have := h1'.out; omega)])) rfl, rfl⟩
set_option maxHeartbeats 400000 in
theorem get8 (a : Option Addr) (c : Nat) (l : List Int) (w : World) (h : kt.Rd w a 8 l) : Calls Try.prog 44 #[.slice a 8 c] w fun e w' => e = .returned (.tuple #[.int .u64 (wd.leV l), .int .i64 0]) ∧ w = w' := by
  obtain ⟨h1, hb, h3⟩ := h
  rcases h3 with h3 | ⟨b, off, rfl, hc⟩
  · cases h3
  have hc' := bl.hid hc
  have hb' := bl.hid hb
  have h1' := bl.hid h1
  clear hc hb h1
  go_enter Try.func44, Try.ntmps44
  go_wp2
  go_loop [4, 18] (fun x i => ∃ k : Nat, k ≤ 8 ∧ i = .int .i64 k ∧ x = .int .u64 (wd.leV (l.take k))) (fun _ i => (8 - intOf i).toNat)
  case atStart => exact ⟨0, by omega, rfl, rfl⟩
  case round =>
    obtain ⟨k, hk, rfl, rfl⟩ := hrel
    by_cases hlt : k < 8
    · have hd : decide ((k : Int) < 8) = true := decide_eq_true (by omega)
      obtain ⟨d, hdd⟩ : ∃ d, l.getD k 0 = d := ⟨_, rfl⟩
      have hcell : w.cell? ⟨b, off + k, none⟩ = some (.int .u8 d) := by rw [← hdd]; exact hc'.out k hlt
      have hst := get_step (wd.leV (l.take k)) d k (by omega) (wd.leV_bd _ (wd.isBytes_take hb'.out k)).1 (by have := (wd.leV_bd _ (wd.isBytes_take hb'.out k)).2; rwa [List.length_take, Nat.min_eq_left (by have := h1'.out; omega)] at this) (by rw [← hdd]; exact (wd.isBytes_getD hb'.out k).1) (by rw [← hdd]; exact (wd.isBytes_getD hb'.out k).2)
      have hnx : wd.leV (l.take (k + 1)) = wd.leV (l.take k) + 256 ^ k * d := by rw [← hdd]; exact wd.leV_take l k (by have := h1'.out; omega)
      have HN := bl.hid hnx
      have HL := bl.hid hlt
      obtain ⟨X, hX⟩ : ∃ X, wd.leV (l.take k) = X := ⟨_, rfl⟩
      rw [hX] at hst
      have HX := bl.hid hX
      have hk2 : k ≤ 7 := by omega
      clear hnx hlt hdd
      rw [hX]
      clear hX
      go_wp2
      go_round
      case rel => first | exact ⟨k + 1, HL.out, by go_num, bl.int_eq (by rw [HN.out, HX.out])⟩ | ((repeat apply Exists.intro); refine ⟨⟨k + 1, HL.out, by go_num, bl.int_eq (by rw [HN.out, HX.out])⟩, ?_⟩; and_intros <;> rfl)
      case measure => have := HL.out; simp [intOf]; omega
    · obtain rfl : k = 8 := by omega
      go_wp2
      go_ret2
      exact ⟨bl.ret2 (bl.int_eq (by rw [List.take_of_length_le (by have := h1'.out; omega)])) rfl, rfl⟩
theorem get_long (a : Option Addr) (n c : Nat) (w : World) (h : 8 < n) : Calls Try.prog 44 #[.slice a n c] w fun e w' => e = .returned (.tuple #[.int .u64 0, .int .i64 3]) ∧ w = w' := by
  go_enter Try.func44, Try.ntmps44
  go_wp2
  go_ret2
  exact ⟨rfl, rfl⟩
theorem get_odd0 (a : Option Addr) (c : Nat) (w : World) : Calls Try.prog 44 #[.slice a 0 c] w fun e w' => e = .returned (.tuple #[.int .u64 0, .int .i64 2]) ∧ w = w' := by
  go_enter Try.func44, Try.ntmps44
  go_wp2
  go_ret2
  exact ⟨rfl, rfl⟩
theorem get_odd3 (a : Option Addr) (c : Nat) (w : World) : Calls Try.prog 44 #[.slice a 3 c] w fun e w' => e = .returned (.tuple #[.int .u64 0, .int .i64 2]) ∧ w = w' := by
  go_enter Try.func44, Try.ntmps44
  go_wp2
  go_ret2
  exact ⟨rfl, rfl⟩
theorem get_odd5 (a : Option Addr) (c : Nat) (w : World) : Calls Try.prog 44 #[.slice a 5 c] w fun e w' => e = .returned (.tuple #[.int .u64 0, .int .i64 2]) ∧ w = w' := by
  go_enter Try.func44, Try.ntmps44
  go_wp2
  go_ret2
  exact ⟨rfl, rfl⟩
theorem get_odd6 (a : Option Addr) (c : Nat) (w : World) : Calls Try.prog 44 #[.slice a 6 c] w fun e w' => e = .returned (.tuple #[.int .u64 0, .int .i64 2]) ∧ w = w' := by
  go_enter Try.func44, Try.ntmps44
  go_wp2
  go_ret2
  exact ⟨rfl, rfl⟩
theorem get_odd7 (a : Option Addr) (c : Nat) (w : World) : Calls Try.prog 44 #[.slice a 7 c] w fun e w' => e = .returned (.tuple #[.int .u64 0, .int .i64 2]) ∧ w = w' := by
  go_enter Try.func44, Try.ntmps44
  go_wp2
  go_ret2
  exact ⟨rfl, rfl⟩
theorem get_any (a : Option Addr) (n c : Nat) (l : List Int) (w : World) (h : kt.Rd w a n l) : Calls Try.prog 44 #[.slice a n c] w fun e w' => e = .returned (.tuple #[.int .u64 (wd.getV l), .int .i64 (wd.getE l)]) ∧ w = w' := by
  have h1 := h.1
  by_cases h8 : 8 < n
  · rw [show wd.getV l = 0 from if_neg (by omega), show wd.getE l = 3 from if_pos (by omega)]
    exact get_long a n c w h8
  · have hn : n = 0 ∨ n = 1 ∨ n = 2 ∨ n = 3 ∨ n = 4 ∨ n = 5 ∨ n = 6 ∨ n = 7 ∨ n = 8 := by omega
    have ok : (n = 1 ∨ n = 2 ∨ n = 4 ∨ n = 8) → wd.getV l = wd.leV l ∧ wd.getE l = 0 := fun g => ⟨if_pos (by omega), by rw [wd.getE, if_neg (by omega), if_pos (by omega)]⟩
    have no : ¬ (n = 1 ∨ n = 2 ∨ n = 4 ∨ n = 8) → wd.getV l = 0 ∧ wd.getE l = 2 := fun g => ⟨if_neg (by omega), by rw [wd.getE, if_neg (by omega), if_neg (by omega)]⟩
    rcases hn with rfl | rfl | rfl | rfl | rfl | rfl | rfl | rfl | rfl
    · rw [(no (by omega)).1, (no (by omega)).2]; exact get_odd0 a c w
    · rw [(ok (by omega)).1, (ok (by omega)).2]; exact get1 a c l w h
    · rw [(ok (by omega)).1, (ok (by omega)).2]; exact get2 a c l w h
    · rw [(no (by omega)).1, (no (by omega)).2]; exact get_odd3 a c w
    · rw [(ok (by omega)).1, (ok (by omega)).2]; exact get4 a c l w h
    · rw [(no (by omega)).1, (no (by omega)).2]; exact get_odd5 a c w
    · rw [(no (by omega)).1, (no (by omega)).2]; exact get_odd6 a c w
    · rw [(no (by omega)).1, (no (by omega)).2]; exact get_odd7 a c w
    · rw [(ok (by omega)).1, (ok (by omega)).2]; exact get8 a c l w h
theorem put_no (x n : Int) (w : World) (h : ¬ (n = 1 ∨ n = 2 ∨ n = 4 ∨ n = 8)) : Calls Try.prog 34 #[.int .u64 x, .int .i64 n] w fun e w' => e = .returned (.tuple #[.slice none 0 0, .int .i64 2]) ∧ w = w' := by
  have n1 : (n == 1) = false := by simp; omega
  have n2 : (n == 2) = false := by simp; omega
  have n4 : (n == 4) = false := by simp; omega
  have n8 : (n == 8) = false := by simp; omega
  clear h
  go_enter Try.func34, Try.ntmps34
  go_wp2
  go_ret2
  exact ⟨rfl, rfl⟩
theorem same_any (a a' : Option Addr) (n n' c c' : Nat) (l l' : List Int) (w : World) (h : kt.Rd w a n l) (h' : kt.Rd w a' n' l') : Calls Try.prog 18 #[.slice a n c, .slice a' n' c'] w fun e w' => e = .returned (.bool (decide (l = l'))) ∧ w = w' := by
  have k1 := h.convert (P := Try.prog) 22 5 9 Try.underlying22 Try.underlying5 Try.underlying9 c
  have k2 := h'.convert (P := Try.prog) 22 5 9 Try.underlying22 Try.underlying5 Try.underlying9 c'
  have hb := bl.hid h.2.1
  have hb' := bl.hid h'.2.1
  clear h h'
  go_enter Try.func18, Try.ntmps18
  go_wp2
  go_ret
  refine ⟨bl.ret1 (bl.bool_eq ?_), rfl⟩
  by_cases e : l = l'
  · subst e
    simp
  · have ne : ¬ (strOfNums l).toList = (strOfNums l').toList := fun q => e (kt.strOfNums_inj hb.out hb'.out (by
      rw [ByteArray.toList_eq, ByteArray.toList_eq] at q
      exact ByteArray.ext (Array.toList_inj.1 q)))
    simp [e, ne]
end Go.Proofs.Ytkohmoekomegnaa
