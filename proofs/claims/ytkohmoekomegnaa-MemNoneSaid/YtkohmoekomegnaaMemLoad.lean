/- Load: a number is told, or why none is. -/
import Derived.Test.YtkohmoekomegnaaMem
namespace Go.Proofs.Ytkohmoekomegnaa
open Go.RowKit
set_option linter.unusedVariables false

namespace pl
/-- is that a size of a number -/
def sizB (n : Int) : Bool := decide (n = 1 ∨ n = 2 ∨ n = 4 ∨ n = 8)
/-- does an access fit -/
def fit (l : List Int) (a n : Int) : Bool := decide (16 ≤ a ∧ 0 ≤ n ∧ a + n ≤ l.length)
def ldV (l : List Int) (a n : Int) : Int := if sizB n && fit l a n then wd.leV ((l.drop a.toNat).take n.toNat) else 0
def ldE (l : List Int) (a n : Int) : Int := if sizB n then if fit l a n then 0 else 15 else 2
end pl

theorem IsMem.rd {w : World} {p g : Nat} {l : List Int} (h : IsMem w p g l) (a n : Nat) (hf : a + n ≤ l.length) : kt.Rd w (some ⟨g, a, none⟩) n ((l.drop a).take n) := by
  obtain ⟨rest, hr⟩ := h.row
  refine ⟨by rw [List.length_take, List.length_drop]; omega, wd.isBytes_take (wd.isBytes_drop h.bytes _) _, .inr ⟨_, _, rfl, fun i hi => ?_⟩⟩
  have h1 : a + i < l.length := by omega
  rw [cell_of_row w g (a + i) _ _ _ hr]
  simp [List.getElem?_append, h1, List.getD, hi]
theorem sized_yes (n : Nat) (w : World) (h : n = 1 ∨ n = 2 ∨ n = 4 ∨ n = 8) : Calls Try.prog 32 #[.int .i64 n] w fun e w' => e = .returned (.bool true) ∧ w = w' := by
  rcases h with rfl | rfl | rfl | rfl
  · go_enter Try.func32, Try.ntmps32
    go_wp2
    go_ret
    exact ⟨rfl, rfl⟩
  · go_enter Try.func32, Try.ntmps32
    go_wp2
    go_ret
    exact ⟨rfl, rfl⟩
  · go_enter Try.func32, Try.ntmps32
    go_wp2
    go_ret
    exact ⟨rfl, rfl⟩
  · go_enter Try.func32, Try.ntmps32
    go_wp2
    go_ret
    exact ⟨rfl, rfl⟩
theorem sized_no (n : Int) (w : World) (h : ¬ (n = 1 ∨ n = 2 ∨ n = 4 ∨ n = 8)) : Calls Try.prog 32 #[.int .i64 n] w fun e w' => e = .returned (.bool false) ∧ w = w' := by
  have n1 : (n == 1) = false := by simp; omega
  have n2 : (n == 2) = false := by simp; omega
  have n4 : (n == 4) = false := by simp; omega
  have n8 : (n == 8) = false := by simp; omega
  clear h
  go_enter Try.func32, Try.ntmps32
  go_wp2
  go_ret
  exact ⟨rfl, rfl⟩
/-- the closure inside Load -/
theorem load_in (a : Option Addr) (n c : Nat) (l : List Int) (A : Nat) (v : Int) (w : World) (h : kt.Rd w a n l) (hA : w.cell? ⟨A, 0, none⟩ = some (.int .u64 v)) (hf : w.frozen? ⟨A, 0, none⟩ = false) :
    Calls Try.prog 43 #[.slice a n c, .pointer (some ⟨A, 0, none⟩)] w fun e w' => e = .returned (.tuple #[]) ∧ w.setCell ⟨A, 0, none⟩ (.int .u64 (wd.getV l)) = w' := by
  have H := bl.hid h
  clear h
  go_enter Try.func43, Try.ntmps43
  go_wp2_with fail
  refine (get_any a n c l _ H.out).mono ?_
  rintro e w' ⟨rfl, rfl⟩
  go_wp2
  go_end0
  exact ⟨rfl, rfl⟩
theorem access_load (p g L cap : Nat) (at' n : Nat) (A : Nat) (v : Int) (l : List Int) (w : World) (hc : w.cell? ⟨p, 0, none⟩ = some (.slice (some ⟨g, 0, none⟩) L cap)) (hL : L ≤ 65536) (hcap : L ≤ cap) (a0 : 16 ≤ at') (n0 : 0 < n) (a1 : at' + n ≤ L)
    (h : kt.Rd w (some ⟨g, at', none⟩) n l) (hA : w.cell? ⟨A, 0, none⟩ = some (.int .u64 v)) (hf : w.frozen? ⟨A, 0, none⟩ = false) :
    Calls Try.prog 27 #[.pointer (some ⟨p, 0, none⟩), .int .u64 at', .int .i64 n, .bool true, .func (.func 43) #[] #[.pointer (some ⟨A, 0, none⟩)]] w fun e w' => e = .returned (.int .i64 0) ∧ w.setCell ⟨A, 0, none⟩ (.int .u64 (wd.getV l)) = w' := by
  have hmf : ∀ (fn : Fn) (first cap : Array Value) (w : World), (Instr.makeFunc fn first cap).run Try.prog w = .ok (.func fn first cap) w := fun _ _ _ _ => rfl
  have H := bl.hid h
  clear h
  go_enter Try.func27, Try.ntmps27
  go_wp2_with fail
  refine (none_no p g L cap _ hc).mono ?_
  rintro e w' ⟨rfl, rfl⟩
  go_wp2_with fail
  refine (cut_pos p g L cap at' n _ hc hL hcap a0 n0 a1).mono ?_
  rintro e w' ⟨rfl, rfl⟩
  go_wp2_with fail
  refine (load_in _ n n l A v _ H.out hA hf).mono ?_
  rintro e w' ⟨rfl, rfl⟩
  go_wp2
  go_ret
  exact ⟨rfl, rfl⟩
theorem load_ok (p g at' n : Nat) (l : List Int) (w : World) (h : IsMem w p g l) (hn : n = 1 ∨ n = 2 ∨ n = 4 ∨ n = 8) (a0 : 16 ≤ at') (a1 : at' + n ≤ l.length) :
    Calls Try.prog 26 #[.pointer (some ⟨p, 0, none⟩), .int .u64 at', .int .i64 n] w fun e w' => e = .returned (.tuple #[.int .u64 (wd.leV ((l.drop at').take n)), .int .i64 0]) ∧ Below w.heap.size w w' := by
  have hmf : ∀ (fn : Fn) (first cap : Array Value) (w : World), (Instr.makeFunc fn first cap).run Try.prog w = .ok (.func fn first cap) w := fun _ _ _ _ => rfl
  have h2 := h.keep (kt.below_row (.cells #[.int .u64 0] 23))
  obtain ⟨cap, hcap, hc⟩ := h2.cell
  have HR := bl.hid (h2.rd at' n a1)
  have hL := h.size
  have hlen : ((l.drop at').take n).length = n := by rw [List.length_take, List.length_drop]; omega
  have hv : wd.getV ((l.drop at').take n) = wd.leV ((l.drop at').take n) := if_pos (by rw [hlen]; exact hn)
  have HV := bl.hid hv
  have HN := bl.hid hn
  have n0 : 0 < n := by omega
  clear h h2 hlen hv hn
  go_enter Try.func26, Try.ntmps26
  go_wp2_with fail
  refine (sized_yes n _ HN.out).mono ?_
  rintro e w' ⟨rfl, rfl⟩
  go_wp2_with fail
  refine (access_load p g l.length cap at' n w.heap.size 0 ((l.drop at').take n) _ hc hL hcap a0 n0 a1 HR.out (by simp) (by simp)).mono ?_
  rw [HV.out]
  rintro e w' ⟨rfl, rfl⟩
  go_wp2
  go_ret2
  exact ⟨rfl, kt.below_row _⟩
theorem load_out (p g : Nat) (at' : Int) (n : Nat) (l : List Int) (w : World) (h : IsMem w p g l) (hn : n = 1 ∨ n = 2 ∨ n = 4 ∨ n = 8) (a0 : 0 ≤ at') (a1 : at' < 18446744073709551616) (hf : at' < 16 ∨ (l.length : Int) < at' + n) :
    Calls Try.prog 26 #[.pointer (some ⟨p, 0, none⟩), .int .u64 at', .int .i64 n] w fun e w' => e = .returned (.tuple #[.int .u64 0, .int .i64 15]) ∧ Below w.heap.size w w' := by
  have hmf : ∀ (fn : Fn) (first cap : Array Value) (w : World), (Instr.makeFunc fn first cap).run Try.prog w = .ok (.func fn first cap) w := fun _ _ _ _ => rfl
  have h2 := h.keep (kt.below_row (.cells #[.int .u64 0] 23))
  obtain ⟨cap, hcap, hc⟩ := h2.cell
  have hL := h.size
  have HN := bl.hid hn
  have HF := bl.hid hf
  have n9 : n < 9 := by omega
  clear h h2 hn hf
  go_enter Try.func26, Try.ntmps26
  go_wp2_with fail
  refine (sized_yes n _ HN.out).mono ?_
  rintro e w' ⟨rfl, rfl⟩
  go_wp2_with fail
  refine (access_out p g l.length cap at' n _ _ hc hL a0 a1 (by omega) (by omega) HF.out).mono ?_
  rintro e w' ⟨rfl, rfl⟩
  go_wp2
  go_ret2
  exact ⟨rfl, kt.below_row _⟩
theorem load_odd (p g : Nat) (at' n : Int) (l : List Int) (w : World) (h : IsMem w p g l) (hn : ¬ (n = 1 ∨ n = 2 ∨ n = 4 ∨ n = 8)) :
    Calls Try.prog 26 #[.pointer (some ⟨p, 0, none⟩), .int .u64 at', .int .i64 n] w fun e w' => e = .returned (.tuple #[.int .u64 0, .int .i64 2]) ∧ Below w.heap.size w w' := by
  have hmf : ∀ (fn : Fn) (first cap : Array Value) (w : World), (Instr.makeFunc fn first cap).run Try.prog w = .ok (.func fn first cap) w := fun _ _ _ _ => rfl
  have h2 := h.keep (kt.below_row (.cells #[.int .u64 0] 23))
  obtain ⟨cap, hcap, hc⟩ := h2.cell
  have HN := bl.hid hn
  clear h h2 hn
  go_enter Try.func26, Try.ntmps26
  go_wp2_with fail
  refine (sized_no n _ HN.out).mono ?_
  rintro e w' ⟨rfl, rfl⟩
  go_wp2_with fail
  refine (access_not p g l.length cap at' n _ _ hc).mono ?_
  rintro e w' ⟨rfl, rfl⟩
  go_wp2
  go_ret2
  exact ⟨rfl, kt.below_row _⟩
/-- Load, for every place and size -/
theorem load_any (p g : Nat) (at' n : Int) (l : List Int) (w : World) (h : IsMem w p g l) (a0 : 0 ≤ at') (a1 : at' < 18446744073709551616) :
    Calls Try.prog 26 #[.pointer (some ⟨p, 0, none⟩), .int .u64 at', .int .i64 n] w fun e w' => e = .returned (.tuple #[.int .u64 (pl.ldV l at' n), .int .i64 (pl.ldE l at' n)]) ∧ Below w.heap.size w w' := by
  by_cases hn : n = 1 ∨ n = 2 ∨ n = 4 ∨ n = 8
  · have hs : pl.sizB n = true := decide_eq_true hn
    obtain ⟨k, rfl⟩ : ∃ k : Nat, n = k := ⟨n.toNat, by omega⟩
    by_cases hf : 16 ≤ at' ∧ 0 ≤ (k : Int) ∧ at' + k ≤ l.length
    · have hff : pl.fit l at' k = true := decide_eq_true hf
      obtain ⟨b, rfl⟩ : ∃ b : Nat, at' = b := ⟨at'.toNat, by omega⟩
      rw [show pl.ldV l b k = wd.leV ((l.drop b).take k) by simp [pl.ldV, hs, hff], show pl.ldE l b k = 0 by simp [pl.ldE, hs, hff]]
      exact load_ok p g b k l w h (by omega) (by omega) (by omega)
    · have hff : pl.fit l at' k = false := decide_eq_false hf
      rw [show pl.ldV l at' k = 0 by simp [pl.ldV, hff], show pl.ldE l at' k = 15 by simp [pl.ldE, hs, hff]]
      exact load_out p g at' k l w h (by omega) a0 a1 (by omega)
  · have hs : pl.sizB n = false := decide_eq_false hn
    rw [show pl.ldV l at' n = 0 by simp [pl.ldV, hs], show pl.ldE l at' n = 2 by simp [pl.ldE, hs]]
    exact load_odd p g at' n l w h hn
theorem load_nil (at' n : Int) (w : World) : Calls Try.prog 26 #[.pointer none, .int .u64 at', .int .i64 n] w fun e w' => e = .returned (.tuple #[.int .u64 0, .int .i64 1]) ∧ Below w.heap.size w w' := by
  have hmf : ∀ (fn : Fn) (first cap : Array Value) (w : World), (Instr.makeFunc fn first cap).run Try.prog w = .ok (.func fn first cap) w := fun _ _ _ _ => rfl
  by_cases hn : n = 1 ∨ n = 2 ∨ n = 4 ∨ n = 8
  · obtain ⟨k, rfl⟩ : ∃ k : Nat, n = k := ⟨n.toNat, by omega⟩
    have HN : Hid (k = 1 ∨ k = 2 ∨ k = 4 ∨ k = 8) := bl.hid (by omega)
    clear hn
    go_enter Try.func26, Try.ntmps26
    go_wp2_with fail
    refine (sized_yes k _ HN.out).mono ?_
    rintro e w' ⟨rfl, rfl⟩
    go_wp2_with fail
    refine (access_nil at' k true _ _).mono ?_
    rintro e w' ⟨rfl, rfl⟩
    go_wp2
    go_ret2
    exact ⟨rfl, kt.below_row _⟩
  · have HN := bl.hid hn
    clear hn
    go_enter Try.func26, Try.ntmps26
    go_wp2_with fail
    refine (sized_no n _ HN.out).mono ?_
    rintro e w' ⟨rfl, rfl⟩
    go_wp2_with fail
    refine (access_nil at' n false _ _).mono ?_
    rintro e w' ⟨rfl, rfl⟩
    go_wp2
    go_ret2
    exact ⟨rfl, kt.below_row _⟩
end Go.Proofs.Ytkohmoekomegnaa
