/- The memory layer: what a memory is in the heap; none and cut by contracts. -/
import Derived.Test.YtkohmoekomegnaaKBytes
import Derived.Lib.SliceRun
import Derived.WalkSpells
namespace Go.Proofs.Ytkohmoekomegnaa
open Go.RowKit
set_option linter.unusedVariables false

/-- bytes in new memory, their number a numeral -/
def BytesN (n : Nat) (l : List Int) (w : World) (e : Ending) (w' : World) : Prop :=
  ∃ a c, e = .returned (.tuple #[.slice a n c, .int .i64 0]) ∧ kt.Own kt.IsU8 w' w.heap.size 5 1 (.slice a n c) n (l.map (Value.int .u8)) ∧ Below w.heap.size w w'
theorem BytesPost.n {n : Nat} {l : List Int} {w : World} {e : Ending} {w' : World} (h : BytesPost l w e w') (hn : l.length = n) : BytesN n l w e w' := by
  subst hn
  exact h
theorem Rd_own {w : World} {B : Nat} {a : Option Addr} {n c : Nat} {l : List Int} (hl : wd.isBytes l) (h : kt.Own kt.IsU8 w B 5 1 (.slice a n c) n (l.map (Value.int .u8))) : kt.Rd w a n l := kt.Rd.own hl h.row
theorem put_lit (x : Int) (n : Nat) (w : World) (x0 : 0 ≤ x) (x1 : x < 18446744073709551616) (h : n = 1 ∨ n = 2 ∨ n = 4 ∨ n = 8) : Calls Try.prog 34 #[.int .u64 x, .int .i64 n] w (BytesN n (wd.leB x n) w) := by
  rcases h with rfl | rfl | rfl | rfl
  · exact (put1 x w x0 x1).mono fun e w' q => q.n (wd.leB_length _ _)
  · exact (put2 x w x0 x1).mono fun e w' q => q.n (wd.leB_length _ _)
  · exact (put4 x w x0 x1).mono fun e w' q => q.n (wd.leB_length _ _)
  · exact (put8 x w x0 x1).mono fun e w' q => q.n (wd.leB_length _ _)
theorem same_yes (a a' : Option Addr) (n n' c c' : Nat) (l l' : List Int) (w : World) (h : kt.Rd w a n l) (h' : kt.Rd w a' n' l') (e : l = l') : Calls Try.prog 18 #[.slice a n c, .slice a' n' c'] w fun e w' => e = .returned (.bool true) ∧ w = w' := by
  have := same_any a a' n n' c c' l l' w h h'
  rwa [decide_eq_true e] at this

/-- block p holds the memory's struct, block g its bytes l (and maybe room behind) -/
structure IsMem (w : World) (p g : Nat) (l : List Int) : Prop where
  apart : p ≠ g
  head : ∃ cap, l.length ≤ cap ∧ w.heap[p]? = some (.cells #[.slice (some ⟨g, 0, none⟩) l.length cap] 55 (0, 0))
  row : ∃ rest : List Value, w.heap[g]? = some (.cells (l.map (Value.int .u8) ++ rest).toArray 5 (0, 0))
  bytes : wd.isBytes l
  size : l.length ≤ 65536

theorem IsMem.cell {w : World} {p g : Nat} {l : List Int} (h : IsMem w p g l) : ∃ cap, l.length ≤ cap ∧ w.cell? ⟨p, 0, none⟩ = some (.slice (some ⟨g, 0, none⟩) l.length cap) := by
  obtain ⟨cap, h1, h2⟩ := h.head
  exact ⟨cap, h1, by rw [cell_of_row w p 0 _ _ _ h2]; rfl⟩
theorem IsMem.kept {w w' : World} {p g : Nat} {l : List Int} (h : IsMem w p g l) (hp : w'.heap[p]? = w.heap[p]?) (hg : w'.heap[g]? = w.heap[g]?) : IsMem w' p g l := by
  obtain ⟨h1, ⟨cap, h2, h3⟩, ⟨rest, h4⟩, h5, h6⟩ := h
  exact ⟨h1, ⟨cap, h2, hp.trans h3⟩, ⟨rest, hg.trans h4⟩, h5, h6⟩
theorem IsMem.lt {w : World} {p g : Nat} {l : List Int} (h : IsMem w p g l) : p < w.heap.size ∧ g < w.heap.size := by
  obtain ⟨h1, ⟨cap, h2, h3⟩, ⟨rest, h4⟩, h5, h6⟩ := h
  exact ⟨(Array.getElem?_eq_some_iff.1 h3).1, (Array.getElem?_eq_some_iff.1 h4).1⟩
theorem IsMem.keep {w w' : World} {p g : Nat} {l : List Int} (h : IsMem w p g l) (hb : Below w.heap.size w w') : IsMem w' p g l := h.kept (hb.block p h.lt.1) (hb.block g h.lt.2)

theorem none_no (p g : Nat) (n cap : Nat) (w : World) (hc : w.cell? ⟨p, 0, none⟩ = some (.slice (some ⟨g, 0, none⟩) n cap)) :
    Calls Try.prog 29 #[.pointer (some ⟨p, 0, none⟩)] w fun e w' => e = .returned (.bool false) ∧ w = w' := by
  have q1 : ∀ (w : World) (a : Option Addr) (n c n' c' : Nat), (binOp .eql 22 (.slice a n c) (.slice none n' c')).run Try.prog w = .ok (.bool a.isNone) w := fun w a n c n' c' => Lib.run_eql_slice_nil w _ _ a n c n' c' Try.underlying22
  go_enter Try.func29, Try.ntmps29
  go_wp2
  go_ret
  exact ⟨rfl, rfl⟩
theorem none_nil (w : World) : Calls Try.prog 29 #[.pointer none] w fun e w' => e = .returned (.bool true) ∧ w = w' := by
  go_enter Try.func29, Try.ntmps29
  go_wp2
  go_ret
  exact ⟨rfl, rfl⟩
theorem none_empty (p n cap : Nat) (w : World) (hc : w.cell? ⟨p, 0, none⟩ = some (.slice none n cap)) : Calls Try.prog 29 #[.pointer (some ⟨p, 0, none⟩)] w fun e w' => e = .returned (.bool true) ∧ w = w' := by
  have q1 : ∀ (w : World) (a : Option Addr) (n c n' c' : Nat), (binOp .eql 22 (.slice a n c) (.slice none n' c')).run Try.prog w = .ok (.bool a.isNone) w := fun w a n c n' c' => Lib.run_eql_slice_nil w _ _ a n c n' c' Try.underlying22
  go_enter Try.func29, Try.ntmps29
  go_wp2
  go_ret
  exact ⟨rfl, rfl⟩
theorem cut_no (p g L cap : Nat) (at' n : Int) (w : World) (hc : w.cell? ⟨p, 0, none⟩ = some (.slice (some ⟨g, 0, none⟩) L cap)) (hL : L ≤ 65536) (a0 : 0 ≤ at') (a1 : at' < 18446744073709551616) (n0 : 0 ≤ n) (n1 : n < 9223372036854775808) (h : at' < 16 ∨ (L : Int) < at' + n) :
    Calls Try.prog 45 #[.pointer (some ⟨p, 0, none⟩), .int .u64 at', .int .i64 n] w fun e w' => e = .returned (.tuple #[.slice none 0 0, .bool false]) ∧ w = w' := by
  by_cases h1 : at' < 16
  · clear h
    go_enter Try.func45, Try.ntmps45
    go_wp2
    all_goals (go_ret2; exact ⟨rfl, rfl⟩)
  · have h2 : (L : Int) < at' + n := by omega
    clear h
    by_cases h3 : (L : Int) < at'
    · go_enter Try.func45, Try.ntmps45
      go_wp2
      all_goals (go_ret2; exact ⟨rfl, rfl⟩)
    · have h4 : (L : Int) - at' < n := by omega
      go_enter Try.func45, Try.ntmps45
      go_wp2
      all_goals (go_ret2; exact ⟨rfl, rfl⟩)
theorem cut_zero (p g L cap : Nat) (at' : Nat) (w : World) (hc : w.cell? ⟨p, 0, none⟩ = some (.slice (some ⟨g, 0, none⟩) L cap)) (hL : L ≤ 65536) (hcap : L ≤ cap) (a0 : 16 ≤ at') (a1 : at' ≤ L) :
    Calls Try.prog 45 #[.pointer (some ⟨p, 0, none⟩), .int .u64 at', .int .i64 0] w fun e w' => e = .returned (.tuple #[.slice (some ⟨g, 0, none⟩) 0 0, .bool true]) ∧ w = w' := by
  go_enter Try.func45, Try.ntmps45
  go_wp2
  go_ret2
  exact ⟨rfl, rfl⟩
theorem cut_pos (p g L cap : Nat) (at' n : Nat) (w : World) (hc : w.cell? ⟨p, 0, none⟩ = some (.slice (some ⟨g, 0, none⟩) L cap)) (hL : L ≤ 65536) (hcap : L ≤ cap) (a0 : 16 ≤ at') (n0 : 0 < n) (a1 : at' + n ≤ L) :
    Calls Try.prog 45 #[.pointer (some ⟨p, 0, none⟩), .int .u64 at', .int .i64 n] w fun e w' => e = .returned (.tuple #[.slice (some ⟨g, at', none⟩) n n, .bool true]) ∧ w = w' := by
  go_enter Try.func45, Try.ntmps45
  go_wp2
  go_ret2
  exact ⟨bl.ret2 (by show Value.slice _ (at' + n - at') (at' + n - at') = _; rw [Nat.add_sub_cancel_left]) rfl, rfl⟩

/-! ### access, where nothing is done -/
theorem access_nil (at' n : Int) (may : Bool) (f : Value) (w : World) : Calls Try.prog 27 #[.pointer none, .int .u64 at', .int .i64 n, .bool may, f] w fun e w' => e = .returned (.int .i64 1) ∧ w = w' := by
  go_enter Try.func27, Try.ntmps27
  go_wp2_with fail
  refine (none_nil _).mono ?_
  rintro e w' ⟨rfl, rfl⟩
  go_wp2
  go_ret
  exact ⟨rfl, rfl⟩
theorem access_empty (p m cap : Nat) (at' n : Int) (may : Bool) (f : Value) (w : World) (hc : w.cell? ⟨p, 0, none⟩ = some (.slice none m cap)) : Calls Try.prog 27 #[.pointer (some ⟨p, 0, none⟩), .int .u64 at', .int .i64 n, .bool may, f] w fun e w' => e = .returned (.int .i64 1) ∧ w = w' := by
  go_enter Try.func27, Try.ntmps27
  go_wp2_with fail
  refine (none_empty p m cap _ hc).mono ?_
  rintro e w' ⟨rfl, rfl⟩
  go_wp2
  go_ret
  exact ⟨rfl, rfl⟩
theorem access_not (p g L cap : Nat) (at' n : Int) (f : Value) (w : World) (hc : w.cell? ⟨p, 0, none⟩ = some (.slice (some ⟨g, 0, none⟩) L cap)) : Calls Try.prog 27 #[.pointer (some ⟨p, 0, none⟩), .int .u64 at', .int .i64 n, .bool false, f] w fun e w' => e = .returned (.int .i64 2) ∧ w = w' := by
  go_enter Try.func27, Try.ntmps27
  go_wp2_with fail
  refine (none_no p g L cap _ hc).mono ?_
  rintro e w' ⟨rfl, rfl⟩
  go_wp2
  go_ret
  exact ⟨rfl, rfl⟩
theorem access_out (p g L cap : Nat) (at' n : Int) (f : Value) (w : World) (hc : w.cell? ⟨p, 0, none⟩ = some (.slice (some ⟨g, 0, none⟩) L cap)) (hL : L ≤ 65536) (a0 : 0 ≤ at') (a1 : at' < 18446744073709551616) (n0 : 0 ≤ n) (n1 : n < 9223372036854775808) (h : at' < 16 ∨ (L : Int) < at' + n) :
    Calls Try.prog 27 #[.pointer (some ⟨p, 0, none⟩), .int .u64 at', .int .i64 n, .bool true, f] w fun e w' => e = .returned (.int .i64 15) ∧ w = w' := by
  have hmf : ∀ (fn : Fn) (first cap : Array Value) (w : World), (Instr.makeFunc fn first cap).run Try.prog w = .ok (.func fn first cap) w := fun _ _ _ _ => rfl
  have H := bl.hid h
  clear h
  go_enter Try.func27, Try.ntmps27
  go_wp2_with fail
  refine (none_no p g L cap _ hc).mono ?_
  rintro e w' ⟨rfl, rfl⟩
  go_wp2_with fail
  refine (cut_no p g L cap at' n _ hc hL a0 a1 n0 n1 H.out).mono ?_
  rintro e w' ⟨rfl, rfl⟩
  go_wp2
  go_ret
  exact ⟨rfl, rfl⟩
end Go.Proofs.Ytkohmoekomegnaa
