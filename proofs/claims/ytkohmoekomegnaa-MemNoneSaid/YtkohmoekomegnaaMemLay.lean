/- Bytes for every place and number; Lay: bytes are laid, or why none are. -/
import Derived.Test.YtkohmoekomegnaaMemRest
namespace Go.Proofs.Ytkohmoekomegnaa
open Go.RowKit
set_option linter.unusedVariables false

theorem own_nil (w : World) (B : Nat) (l : List Int) (h : l = []) : kt.Own kt.IsU8 w B 5 1 (.slice none l.length 0) l.length (l.map (Value.int .u8)) := by
  subst h
  exact kt.Own.nil _ _ _ _ _
theorem bytes_out (p g : Nat) (at' n : Int) (l : List Int) (w : World) (h : IsMem w p g l) (a0 : 0 ≤ at') (a1 : at' < 18446744073709551616) (n0 : 0 ≤ n) (n1 : n < 9223372036854775808) (hf : at' < 16 ∨ (l.length : Int) < at' + n) :
    Calls Try.prog 17 #[.pointer (some ⟨p, 0, none⟩), .int .u64 at', .int .i64 n] w (TellPost [] 15 w) := by
  have hmf : ∀ (fn : Fn) (first cap : Array Value) (w : World), (Instr.makeFunc fn first cap).run Try.prog w = .ok (.func fn first cap) w := fun _ _ _ _ => rfl
  have h2 := h.keep (kt.below_row (.cells #[.slice none 0 0] 22))
  obtain ⟨cap, hcap, hc⟩ := h2.cell
  have hL := h.size
  have HF := bl.hid hf
  clear h h2 hf
  go_enter Try.func17, Try.ntmps17
  go_wp2_with fail
  refine (access_out p g l.length cap at' n _ _ hc hL a0 a1 n0 n1 HF.out).mono ?_
  rintro e w' ⟨rfl, rfl⟩
  go_wp2
  go_ret2
  exact ⟨none, 0, rfl, own_nil _ _ [] rfl, kt.below_row _⟩
theorem bytes_neg (p g : Nat) (at' n : Int) (l : List Int) (w : World) (h : IsMem w p g l) (n0 : n < 0) :
    Calls Try.prog 17 #[.pointer (some ⟨p, 0, none⟩), .int .u64 at', .int .i64 n] w (TellPost [] 2 w) := by
  have hmf : ∀ (fn : Fn) (first cap : Array Value) (w : World), (Instr.makeFunc fn first cap).run Try.prog w = .ok (.func fn first cap) w := fun _ _ _ _ => rfl
  have h2 := h.keep (kt.below_row (.cells #[.slice none 0 0] 22))
  obtain ⟨cap, hcap, hc⟩ := h2.cell
  have hd : decide (0 ≤ n) = false := decide_eq_false (by omega)
  clear h h2
  go_enter Try.func17, Try.ntmps17
  go_wp2_with fail
  refine (access_not p g l.length cap at' n _ _ hc).mono ?_
  rintro e w' ⟨rfl, rfl⟩
  go_wp2
  go_ret2
  exact ⟨none, 0, rfl, own_nil _ _ [] rfl, kt.below_row _⟩
/-- Bytes, for every place and number -/
theorem bytes_any (p g : Nat) (at' n : Int) (l : List Int) (w : World) (h : IsMem w p g l) (a0 : 0 ≤ at') (a1 : at' < 18446744073709551616) (n1 : n < 9223372036854775808) :
    Calls Try.prog 17 #[.pointer (some ⟨p, 0, none⟩), .int .u64 at', .int .i64 n] w (TellPost (pl.byL l at' n) (pl.byE l at' n) w) := by
  by_cases hn : 0 ≤ n
  · obtain ⟨k, rfl⟩ : ∃ k : Nat, n = k := ⟨n.toNat, by omega⟩
    by_cases hf : 16 ≤ at' ∧ 0 ≤ (k : Int) ∧ at' + k ≤ l.length
    · have hff : pl.fit l at' k = true := decide_eq_true hf
      obtain ⟨b, rfl⟩ : ∃ b : Nat, at' = b := ⟨at'.toNat, by omega⟩
      rw [show pl.byL l b k = (l.drop b).take k by simp [pl.byL, hff], show pl.byE l b k = 0 by simp [pl.byE, hff]]
      exact bytes_ok p g b k l w h (by omega) (by omega)
    · have hff : pl.fit l at' k = false := decide_eq_false hf
      rw [show pl.byL l at' k = [] by simp [pl.byL, hff], show pl.byE l at' k = 15 by simp [pl.byE, hff]]
      exact bytes_out p g at' k l w h a0 a1 hn n1 (by omega)
  · have hff : pl.fit l at' n = false := decide_eq_false (by omega)
    rw [show pl.byL l at' n = [] by simp [pl.byL, hff], show pl.byE l at' n = 2 by simp [pl.byE, hn]]
    exact bytes_neg p g at' n l w h (by omega)

/-! ### Lay -/
theorem lay_in (g a n sc Bb : Nat) (sa : Option Addr) (bs : List Int) (cur : List Value) (w : World) (hg : w.heap[g]? = some (.cells cur.toArray 5 (0, 0))) (hfit : a + n ≤ cur.length) (n0 : 0 < n)
    (hB : w.cell? ⟨Bb, 0, none⟩ = some (.slice sa n sc)) (hr : kt.Rd w sa n bs) :
    Calls Try.prog 28 #[.slice (some ⟨g, a, none⟩) n n, .pointer (some ⟨Bb, 0, none⟩)] w (LaidPost g a cur bs w) := by
  obtain ⟨b, off, rfl, -⟩ := hr.2.2.resolve_left (by omega)
  have hlen := hr.1
  have HG := bl.hid hg
  have HR := bl.hid hr
  have HL := bl.hid hlen
  clear hg hr hlen
  go_enter Try.func28, Try.ntmps28
  go_wp2_with (refine wpList_copy_own rfl _ _ 22 22 rfl 5 Try.underlying22 (by kernel_rfl) g a n n ⟨b, off, none⟩ n sc rfl rfl cur.toArray 5 HG.out (bs.map (Value.int .u8)) (by rw [List.length_map, HL.out]; exact (Nat.min_self n).symm) HR.out.cells (by rw [List.length_map, HL.out]; simpa using hfit) kt.u8_one ?_)
  go_end0
  refine ⟨rfl, grown_of_row (Below.refl _ _) g _, ?_⟩
  rw [setRow_heap w g cur.toArray _ _ _ HG.out]
theorem lay_in0 (d : Option Addr) (sc Bb : Nat) (sa : Option Addr) (w : World) (hB : w.cell? ⟨Bb, 0, none⟩ = some (.slice sa 0 sc)) :
    Calls Try.prog 28 #[.slice d 0 0, .pointer (some ⟨Bb, 0, none⟩)] w fun e w' => e = .returned (.tuple #[]) ∧ w = w' := by
  go_enter Try.func28, Try.ntmps28
  go_wp2_with (refine wpList_copy_nothing rfl _ _ 22 22 rfl 5 Try.underlying22 (by kernel_rfl) d sa 0 0 0 sc rfl rfl rfl ?_)
  go_end0
  exact ⟨rfl, rfl⟩
theorem access_lay (p g L cap : Nat) (at' n sc Bb : Nat) (sa : Option Addr) (bs : List Int) (cur : List Value) (w : World) (hc : w.cell? ⟨p, 0, none⟩ = some (.slice (some ⟨g, 0, none⟩) L cap)) (hL : L ≤ 65536) (hcap : L ≤ cap) (a0 : 16 ≤ at') (a1 : at' + n ≤ L)
    (hg : w.heap[g]? = some (.cells cur.toArray 5 (0, 0))) (hfit : L ≤ cur.length) (n0 : 0 < n)
    (hB : w.cell? ⟨Bb, 0, none⟩ = some (.slice sa n sc)) (hr : kt.Rd w sa n bs) :
    Calls Try.prog 27 #[.pointer (some ⟨p, 0, none⟩), .int .u64 at', .int .i64 n, .bool true, .func (.func 28) #[] #[.pointer (some ⟨Bb, 0, none⟩)]] w
      fun e w' => e = .returned (.int .i64 0) ∧ w.grownBy w' (some g) ∧ w'.heap[g]? = some (.cells (cur.take at' ++ (bs.map (Value.int .u8) ++ cur.drop (at' + bs.length))).toArray 5 (0, 0)) := by
  have hmf : ∀ (fn : Fn) (first cap : Array Value) (w : World), (Instr.makeFunc fn first cap).run Try.prog w = .ok (.func fn first cap) w := fun _ _ _ _ => rfl
  have HG := bl.hid hg
  have HR := bl.hid hr
  clear hg hr
  go_enter Try.func27, Try.ntmps27
  go_wp2_with fail
  refine (none_no p g L cap _ hc).mono ?_
  rintro e w' ⟨rfl, rfl⟩
  go_wp2_with fail
  refine (cut_pos p g L cap at' n _ hc hL hcap a0 n0 a1).mono ?_
  rintro e w' ⟨rfl, rfl⟩
  go_wp2_with fail
  refine (lay_in g at' n sc Bb sa bs cur _ HG.out (by omega) n0 hB HR.out).mono ?_
  rintro e w1 ⟨rfl, hgr, hrow⟩
  have HW := bl.hid hrow
  clear hrow
  go_wp2
  go_ret
  exact ⟨rfl, hgr, HW.out⟩
theorem access_lay0 (p g L cap : Nat) (at' sc Bb : Nat) (sa : Option Addr) (w : World) (hc : w.cell? ⟨p, 0, none⟩ = some (.slice (some ⟨g, 0, none⟩) L cap)) (hL : L ≤ 65536) (hcap : L ≤ cap) (a0 : 16 ≤ at') (a1 : at' ≤ L)
    (hB : w.cell? ⟨Bb, 0, none⟩ = some (.slice sa 0 sc)) :
    Calls Try.prog 27 #[.pointer (some ⟨p, 0, none⟩), .int .u64 at', .int .i64 0, .bool true, .func (.func 28) #[] #[.pointer (some ⟨Bb, 0, none⟩)]] w
      fun e w' => e = .returned (.int .i64 0) ∧ w = w' := by
  have hmf : ∀ (fn : Fn) (first cap : Array Value) (w : World), (Instr.makeFunc fn first cap).run Try.prog w = .ok (.func fn first cap) w := fun _ _ _ _ => rfl
  go_enter Try.func27, Try.ntmps27
  go_wp2_with fail
  refine (none_no p g L cap _ hc).mono ?_
  rintro e w' ⟨rfl, rfl⟩
  go_wp2_with fail
  refine (cut_zero p g L cap at' _ hc hL hcap a0 a1).mono ?_
  rintro e w' ⟨rfl, rfl⟩
  go_wp2_with fail
  refine (lay_in0 _ sc Bb sa _ hB).mono ?_
  rintro e w' ⟨rfl, rfl⟩
  go_wp2
  go_ret
  exact ⟨rfl, rfl⟩
def LayPost (p g : Nat) (l : List Int) (a : Int) (bs : List Int) (w : World) (e : Ending) (w' : World) : Prop := e = .returned (.int .i64 (pl.layE l a bs.length)) ∧ w.grownBy w' (some g) ∧ IsMem w' p g (pl.layL l a bs)
theorem lay_ok (p g at' n sc : Nat) (sa : Option Addr) (bs : List Int) (l : List Int) (w : World) (h : IsMem w p g l) (hr : kt.Rd w sa n bs) (n0 : 0 < n) (a0 : 16 ≤ at') (a1 : at' + n ≤ l.length) :
    Calls Try.prog 10 #[.pointer (some ⟨p, 0, none⟩), .int .u64 at', .slice sa n sc] w fun e w' => e = .returned (.int .i64 0) ∧ w.grownBy w' (some g) ∧ IsMem w' p g (pl.lay l at' bs) := by
  have hmf : ∀ (fn : Fn) (first cap : Array Value) (w : World), (Instr.makeFunc fn first cap).run Try.prog w = .ok (.func fn first cap) w := fun _ _ _ _ => rfl
  have h4 := h.keep (kt.below_row (.cells #[.slice sa n sc] 22))
  have hr4 := hr.keep (kt.below_row (.cells #[.slice sa n sc] 22))
  obtain ⟨cap, hcap, hc⟩ := h4.cell
  obtain ⟨rest, hrow⟩ := h4.row
  have HR := bl.hid hrow
  have H4 := bl.hid h4
  have HB := bl.hid hr4
  have HL := bl.hid hr.1
  have hL := h.size
  clear h4 hrow h hr hr4
  go_enter Try.func10, Try.ntmps10
  go_wp2_with fail
  refine (access_lay p g l.length cap at' n sc w.heap.size sa bs _ _ hc hL hcap a0 a1 HR.out (by simp) n0 (by simp) HB.out).mono ?_
  rintro e w1 ⟨rfl, hgr, hrow⟩
  have hm := IsMem.stored (bs := bs) H4.out at' (by rw [HL.out]; exact a1) HB.out.2.1 hgr hrow
  have HM := bl.hid hm
  have HG := bl.hid (grown_trans (below_grown (kt.below_row _) _) hgr)
  clear hm hgr hrow
  go_wp2
  go_ret
  exact ⟨rfl, HG.out, HM.out⟩
theorem lay_ok0 (p g at' sc : Nat) (sa : Option Addr) (l : List Int) (w : World) (h : IsMem w p g l) (a0 : 16 ≤ at') (a1 : at' ≤ l.length) :
    Calls Try.prog 10 #[.pointer (some ⟨p, 0, none⟩), .int .u64 at', .slice sa 0 sc] w fun e w' => e = .returned (.int .i64 0) ∧ Below w.heap.size w w' := by
  have hmf : ∀ (fn : Fn) (first cap : Array Value) (w : World), (Instr.makeFunc fn first cap).run Try.prog w = .ok (.func fn first cap) w := fun _ _ _ _ => rfl
  have h4 := h.keep (kt.below_row (.cells #[.slice sa 0 sc] 22))
  obtain ⟨cap, hcap, hc⟩ := h4.cell
  have hL := h.size
  clear h4 h
  go_enter Try.func10, Try.ntmps10
  go_wp2_with fail
  refine (access_lay0 p g l.length cap at' sc w.heap.size sa _ hc hL hcap a0 a1 (by simp)).mono ?_
  rintro e w' ⟨rfl, rfl⟩
  go_wp2
  go_ret
  exact ⟨rfl, kt.below_row _⟩
theorem lay_out (p g : Nat) (at' : Int) (n sc : Nat) (sa : Option Addr) (l : List Int) (w : World) (h : IsMem w p g l) (a0 : 0 ≤ at') (a1 : at' < 18446744073709551616) (n1 : n < 9223372036854775808) (hf : at' < 16 ∨ (l.length : Int) < at' + n) :
    Calls Try.prog 10 #[.pointer (some ⟨p, 0, none⟩), .int .u64 at', .slice sa n sc] w fun e w' => e = .returned (.int .i64 15) ∧ Below w.heap.size w w' := by
  have hmf : ∀ (fn : Fn) (first cap : Array Value) (w : World), (Instr.makeFunc fn first cap).run Try.prog w = .ok (.func fn first cap) w := fun _ _ _ _ => rfl
  have h4 := h.keep (kt.below_row (.cells #[.slice sa n sc] 22))
  obtain ⟨cap, hcap, hc⟩ := h4.cell
  have hL := h.size
  have HF := bl.hid hf
  clear h4 h hf
  go_enter Try.func10, Try.ntmps10
  go_wp2_with fail
  refine (access_out p g l.length cap at' n _ _ hc hL a0 a1 (by omega) (by omega) HF.out).mono ?_
  rintro e w' ⟨rfl, rfl⟩
  go_wp2
  go_ret
  exact ⟨rfl, kt.below_row _⟩
/-- Lay, for every place and bytes -/
theorem lay_any (p g : Nat) (at' : Int) (n sc : Nat) (sa : Option Addr) (bs : List Int) (l : List Int) (w : World) (h : IsMem w p g l) (hr : kt.Rd w sa n bs) (a0 : 0 ≤ at') (a1 : at' < 18446744073709551616) (n1 : n < 9223372036854775808) :
    Calls Try.prog 10 #[.pointer (some ⟨p, 0, none⟩), .int .u64 at', .slice sa n sc] w (LayPost p g l at' bs w) := by
  have hlen := hr.1
  by_cases hf : 16 ≤ at' ∧ 0 ≤ (bs.length : Int) ∧ at' + bs.length ≤ l.length
  · have hff : pl.fit l at' bs.length = true := decide_eq_true hf
    obtain ⟨b, rfl⟩ : ∃ b : Nat, at' = b := ⟨at'.toNat, by omega⟩
    unfold LayPost
    rw [show pl.layL l b bs = pl.lay l b bs by simp [pl.layL, hff], show pl.layE l b bs.length = 0 by simp [pl.layE, hff]]
    by_cases h0 : n = 0
    · subst h0
      obtain rfl : bs = [] := List.eq_nil_of_length_eq_zero hlen
      rw [show pl.lay l b [] = l by simp [pl.lay]]
      exact (lay_ok0 p g b sc sa l w h (by omega) (by simp at hf; omega)).mono fun e w' q => ⟨q.1, below_grown q.2 _, h.keep q.2⟩
    · exact lay_ok p g b n sc sa bs l w h hr (by omega) (by omega) (by omega)
  · have hff : pl.fit l at' bs.length = false := decide_eq_false hf
    unfold LayPost
    rw [show pl.layL l at' bs = l by simp [pl.layL, hff], show pl.layE l at' bs.length = 15 by simp [pl.layE, hff]]
    exact (lay_out p g at' n sc sa l w h a0 a1 n1 (by omega)).mono fun e w' q => ⟨q.1, below_grown q.2 _, h.keep q.2⟩
end Go.Proofs.Ytkohmoekomegnaa
