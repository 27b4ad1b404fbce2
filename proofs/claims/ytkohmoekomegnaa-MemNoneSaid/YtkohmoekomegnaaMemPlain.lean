/- Lists of bytes that are laid, in plain Lean; Pick and cut by contracts. -/
import Derived.Test.YtkohmoekomegnaaMemKnown
namespace Go.Proofs.Ytkohmoekomegnaa
open Go.RowKit
set_option linter.unusedVariables false

namespace pl
def pickV (x n : Int) : Int := (x.tmod n + n) % n
theorem pickV_bd (x n : Int) (h : 1 ≤ n) : 0 ≤ pickV x n ∧ pickV x n < n := ⟨Int.emod_nonneg _ (by omega), Int.emod_lt_of_pos _ (by omega)⟩
theorem lay_back (l : List Int) (a : Nat) (bs : List Int) (h : a + bs.length ≤ l.length) : ((lay l a bs).drop a).take bs.length = bs := by
  unfold lay
  rw [List.drop_append_of_le_length (by rw [List.length_take]; omega), List.drop_of_length_le (by rw [List.length_take]; omega), List.nil_append, List.take_left]
theorem lay_same (l : List Int) (a : Nat) (bs : List Int) (h : a + bs.length ≤ l.length) : lay l a bs = l ↔ bs = (l.drop a).take bs.length := by
  constructor
  · intro e
    have := lay_back l a bs h
    rw [e] at this
    exact this.symm
  · intro e
    have e2 : l = l.take a ++ ((l.drop a).take bs.length ++ l.drop (a + bs.length)) := by
      rw [← List.drop_drop, List.take_append_drop, List.take_append_drop]
    rw [← e] at e2
    exact e2.symm
theorem leV_inj {l l' : List Int} (h : wd.isBytes l) (h' : wd.isBytes l') (e : l.length = l'.length) (v : wd.leV l = wd.leV l') : l = l' := by
  rw [← wd.leB_leV l h, ← wd.leB_leV l' h', v, e]
/-- 200 zeros -/
def z200 : List Int := List.replicate 200 0
theorem z200_length : z200.length = 200 := List.length_replicate
theorem z200_bytes : wd.isBytes z200 := isBytes_zero 200
theorem z200_get (k : Nat) (h : k < 200) : z200[k]? = some 0 := by unfold z200; rw [List.getElem?_replicate, if_pos h]
/-- what stands where bytes were laid at 16 over zeros -/
theorem laid_at (bs : List Int) (k : Nat) (h : bs.length ≤ 100) (hk : 16 + k < 200) : (lay z200 16 bs).getD (16 + k) 0 = if k < bs.length then bs.getD k 0 else 0 := by
  unfold lay
  have h16 : (z200.take 16).length = 16 := by rw [List.length_take, z200_length]; rfl
  rw [List.getD_eq_getElem?_getD, List.getElem?_append_right (by omega), h16, Nat.add_sub_cancel_left]
  by_cases hb : k < bs.length
  · rw [List.getElem?_append_left hb, if_pos hb, List.getD_eq_getElem?_getD]
  · rw [List.getElem?_append_right (by omega), if_neg hb, List.getElem?_drop, z200_get _ (by omega)]
    rfl
/-- the n bytes from place k on, over zeros -/
def seen (bs : List Int) (k n : Nat) : List Int := ((lay z200 16 bs).drop (16 + k)).take n
theorem seen_length (bs : List Int) (k n : Nat) (h : bs.length ≤ 100) (hk : k + n ≤ 184) : (seen bs k n).length = n := by
  unfold seen
  rw [List.length_take, List.length_drop, lay_length _ _ _ (by rw [z200_length]; omega), z200_length]
  omega
theorem seen_at (bs : List Int) (k n j : Nat) (h : bs.length ≤ 100) (hk : k + n ≤ 184) (hj : j < n) : (seen bs k n).getD j 0 = if k + j < bs.length then bs.getD (k + j) 0 else 0 := by
  rw [← laid_at bs (k + j) h (by omega)]
  unfold seen
  rw [List.getD_eq_getElem?_getD, List.getElem?_take_of_lt hj, List.getElem?_drop, List.getD_eq_getElem?_getD, Nat.add_assoc]
theorem isBytes_lay {l bs : List Int} (h : wd.isBytes l) (h' : wd.isBytes bs) (a : Nat) : wd.isBytes (lay l a bs) := by
  intro z hz
  rcases List.mem_append.1 hz with hz | hz
  · exact wd.isBytes_take h _ z hz
  · rcases List.mem_append.1 hz with hz | hz
    · exact h' z hz
    · exact wd.isBytes_drop h _ z hz
theorem seen_bytes {bs : List Int} (h : wd.isBytes bs) (k n : Nat) : wd.isBytes (seen bs k n) := wd.isBytes_take (wd.isBytes_drop (isBytes_lay z200_bytes h _) _) _
/-- the memory of MemApart, behind the first Lay -/
theorem apart_1 (bs : List Int) (h : bs.length ≤ 100) : layL z200 16 bs = lay z200 16 bs ∧ layE z200 16 bs.length = 0 := by
  have hf : fit z200 16 bs.length = true := decide_eq_true (by rw [z200_length]; omega)
  exact ⟨by simp [layL, hf], by simp [layE, hf]⟩
theorem apart_len (bs : List Int) (h : bs.length ≤ 100) : (lay z200 16 bs).length = 200 := by
  rw [lay_length _ _ _ (by rw [z200_length]; omega), z200_length]
theorem siz (n : Nat) (hn : n = 1 ∨ n = 2 ∨ n = 4 ∨ n = 8) : sizB n = true := decide_eq_true (by omega)
theorem apart_2 (bs : List Int) (k n : Nat) (h : bs.length ≤ 100) (hk : k + n ≤ 184) (hn : n = 1 ∨ n = 2 ∨ n = 4 ∨ n = 8) :
    ldE (lay z200 16 bs) (16 + k) n = 0 ∧ ldV (lay z200 16 bs) (16 + k) n = wd.leV (seen bs k n) := by
  have hf : fit (lay z200 16 bs) (16 + k) n = true := decide_eq_true (by rw [apart_len bs h]; omega)
  have ht : (16 + (k : Int)).toNat = 16 + k := by omega
  exact ⟨by simp [ldE, siz n hn, hf], by simp [ldV, siz n hn, hf, ht, seen]⟩
theorem apart_3 (bs : List Int) (k n : Nat) (v : Int) (h : bs.length ≤ 100) (hk : k + n ≤ 184) (hn : n = 1 ∨ n = 2 ∨ n = 4 ∨ n = 8) :
    stL (lay z200 16 bs) (16 + k) n v = lay (lay z200 16 bs) (16 + k) (wd.leB v n) := by
  have hf : fit (lay z200 16 bs) (16 + k) n = true := decide_eq_true (by rw [apart_len bs h]; omega)
  have ht : (16 + (k : Int)).toNat = 16 + k := by omega
  simp [stL, siz n hn, hf, ht]
theorem apart_4 (bs : List Int) (k n : Nat) (v : Int) (h : bs.length ≤ 100) (hk : k + n ≤ 184) (hn : n = 1 ∨ n = 2 ∨ n = 4 ∨ n = 8) :
    ldE (lay (lay z200 16 bs) (16 + k) (wd.leB v n)) (16 + k) n = 0 ∧ ldV (lay (lay z200 16 bs) (16 + k) (wd.leB v n)) (16 + k) n = v % 256 ^ n := by
  have hl := apart_len bs h
  have hf : fit (lay (lay z200 16 bs) (16 + k) (wd.leB v n)) (16 + k) n = true := decide_eq_true (by rw [lay_length _ _ _ (by rw [wd.leB_length]; omega), hl]; omega)
  have ht : (16 + (k : Int)).toNat = 16 + k := by omega
  have hb := lay_back (lay z200 16 bs) (16 + k) (wd.leB v n) (by rw [wd.leB_length]; omega)
  rw [wd.leB_length] at hb
  refine ⟨by simp [ldE, siz n hn, hf], ?_⟩
  rw [← wd.leV_leB n v]
  simp [ldV, siz n hn, hf, ht, hb]
theorem apart_5 (bs : List Int) (k n : Nat) (v : Int) (h : bs.length ≤ 100) (hb : wd.isBytes bs) (hk : k + n ≤ 184) :
    decide (lay (lay z200 16 bs) (16 + k) (wd.leB v n) = lay z200 16 bs) = (v % 256 ^ n == wd.leV (seen bs k n)) := by
  have hs := lay_same (lay z200 16 bs) (16 + k) (wd.leB v n) (by rw [wd.leB_length, apart_len bs h]; omega)
  rw [wd.leB_length] at hs
  rw [Bool.eq_iff_iff, decide_eq_true_eq, hs, beq_iff_eq, ← wd.leV_leB n v]
  show wd.leB v n = seen bs k n ↔ _
  exact ⟨fun e => by rw [e], fun e => leV_inj (wd.leB_bytes _ _) (seen_bytes hb k n) (by rw [wd.leB_length, seen_length bs k n h hk]) e⟩
end pl
theorem pick_val (x n : Int) (w : World) (h1 : 1 ≤ n) (h2 : n ≤ 1000000) (hx0 : -9223372036854775808 ≤ x) (hx1 : x ≤ 9223372036854775807) :
    Calls Try.prog 11 #[.int .i64 x, .int .i64 n] w fun e w' => e = .returned (.int .i64 (pl.pickV x n)) ∧ w = w' := by
  have b1 : -n < x.tmod n := by have := Int.lt_tmod_of_pos x (b := n) (by omega); omega
  have b2 : x.tmod n < n := Int.tmod_lt_of_pos x (by omega)
  go_enter Try.func11, Try.ntmps11
  go_wp2
  go_ret
  exact ⟨rfl, rfl⟩
theorem cut1 (v : Int) (w : World) (v0 : 0 ≤ v) (v1 : v < 18446744073709551616) : Calls Try.prog 16 #[.int .u64 v, .int .i64 1] w fun e w' => e = .returned (.int .u64 (v % 256 ^ 1)) ∧ w = w' := by
  go_enter Try.func16, Try.ntmps16
  go_wp2
  go_ret
  exact ⟨rfl, rfl⟩
theorem cut2 (v : Int) (w : World) (v0 : 0 ≤ v) (v1 : v < 18446744073709551616) : Calls Try.prog 16 #[.int .u64 v, .int .i64 2] w fun e w' => e = .returned (.int .u64 (v % 256 ^ 2)) ∧ w = w' := by
  go_enter Try.func16, Try.ntmps16
  go_wp2
  go_ret
  exact ⟨rfl, rfl⟩
theorem cut4 (v : Int) (w : World) (v0 : 0 ≤ v) (v1 : v < 18446744073709551616) : Calls Try.prog 16 #[.int .u64 v, .int .i64 4] w fun e w' => e = .returned (.int .u64 (v % 256 ^ 4)) ∧ w = w' := by
  go_enter Try.func16, Try.ntmps16
  go_wp2
  go_ret
  exact ⟨rfl, rfl⟩
theorem cut8 (v : Int) (w : World) (v0 : 0 ≤ v) (v1 : v < 18446744073709551616) : Calls Try.prog 16 #[.int .u64 v, .int .i64 8] w fun e w' => e = .returned (.int .u64 (v % 256 ^ 8)) ∧ w = w' := by
  have e8 : v % 256 ^ 8 = v := by
    have : (256 : Int) ^ 8 = 18446744073709551616 := rfl
    omega
  rw [e8]
  clear e8
  go_enter Try.func16, Try.ntmps16
  go_wp2
  go_ret
  exact ⟨rfl, rfl⟩
end Go.Proofs.Ytkohmoekomegnaa
