/- Load: a number is told, or why none is. Store: a number is laid, or why none is. Store for every place and size; Bytes; Lay: each by a contract. Bytes for every place and number; Lay: bytes are laid, or why none are. Size, Copy, Same, New; and what a memory that nobody made answers: each by a contract. New; and what a memory that nobody made answers: each by a contract. -/
import Derived.Test.YtjjkocklpcdbkaaGreatGm1
import Derived.Laws.CopyOwn
import Derived.StillTailTactics
import Derived.Deep.QuietTactic
import Derived.BigQuiet
namespace Go.Proofs.YtjjkocklpcdbkaaGreat
open Go.RowKit
set_option linter.unusedVariables false
set_option maxRecDepth 100000

namespace pl
/-- is that a size of a number -/
def sizB (n : Int) : Bool := decide (n = 1 ∨ n = 2 ∨ n = 4 ∨ n = 8)
/-- does an access fit -/
def fit (l : List Int) (a n : Int) : Bool := decide (16 ≤ a ∧ 0 ≤ n ∧ a + n ≤ l.length)
def ldV (l : List Int) (a n : Int) : Int := if sizB n && fit l a n then wd.leV ((l.drop a.toNat).take n.toNat) else 0
def ldE (l : List Int) (a n : Int) : Int := if sizB n then if fit l a n then 0 else 15 else 2
end pl

theorem IsMem.rd {w : World} {p g : Nat} {l : List Int} (h : IsMem w p g l) (a n : Nat) (hf : a + n ≤ l.length) : kt.Rd w (some ⟨g, a, none⟩) n ((l.drop a).take n) := by
  obtain ⟨rest, hr⟩ := h.row
  refine ⟨by rw [List.length_take, List.length_drop]; omega, wd.isBytes_take (wd.isBytes_drop h.bytes _) _, .inr ⟨_, _, rfl, fun i hi => ?_⟩⟩
  have h1 : a + i < l.length := by omega
  rw [cell_of_row w g (a + i) _ _ _ hr]
  simp [List.getElem?_append, h1, List.getD, hi]
theorem sized_yes (n : Nat) (w : World) (h : n = 1 ∨ n = 2 ∨ n = 4 ∨ n = 8) : Calls Tryz.prog 45 #[.int .i64 n] w fun e w' => e = .returned (.bool true) ∧ w = w' := by
  rcases h with rfl | rfl | rfl | rfl
  · go_enter Tryz.func45, Tryz.ntmps45
    go_wp2
    go_ret
    exact ⟨rfl, rfl⟩
  · go_enter Tryz.func45, Tryz.ntmps45
    go_wp2
    go_ret
    exact ⟨rfl, rfl⟩
  · go_enter Tryz.func45, Tryz.ntmps45
    go_wp2
    go_ret
    exact ⟨rfl, rfl⟩
  · go_enter Tryz.func45, Tryz.ntmps45
    go_wp2
    go_ret
    exact ⟨rfl, rfl⟩
theorem sized_no (n : Int) (w : World) (h : ¬ (n = 1 ∨ n = 2 ∨ n = 4 ∨ n = 8)) : Calls Tryz.prog 45 #[.int .i64 n] w fun e w' => e = .returned (.bool false) ∧ w = w' := by
  have n1 : (n == 1) = false := by simp; omega
  have n2 : (n == 2) = false := by simp; omega
  have n4 : (n == 4) = false := by simp; omega
  have n8 : (n == 8) = false := by simp; omega
  clear h
  go_enter Tryz.func45, Tryz.ntmps45
  go_wp2
  go_ret
  exact ⟨rfl, rfl⟩
/-- the closure inside Load -/
theorem load_in (a : Option Addr) (n c : Nat) (l : List Int) (A : Nat) (v : Int) (w : World) (h : kt.Rd w a n l) (hA : w.cell? ⟨A, 0, none⟩ = some (.int .u64 v)) (hf : w.frozen? ⟨A, 0, none⟩ = false) :
    Calls Tryz.prog 46 #[.slice a n c, .pointer (some ⟨A, 0, none⟩)] w fun e w' => e = .returned (.tuple #[]) ∧ w.setCell ⟨A, 0, none⟩ (.int .u64 (wd.getV l)) = w' := by
  have H := bl.hid h
  clear h
  go_enter Tryz.func46, Tryz.ntmps46
  go_wp2_with fail
  refine (get_any a n c l _ H.out).mono ?_
  rintro e w' ⟨rfl, rfl⟩
  go_wp2
  go_end0
  exact ⟨rfl, rfl⟩
theorem access_load (p g L cap : Nat) (at' n : Nat) (A : Nat) (v : Int) (l : List Int) (w : World) (hc : w.cell? ⟨p, 0, none⟩ = some (.slice (some ⟨g, 0, none⟩) L cap)) (hL : L ≤ 65536) (hcap : L ≤ cap) (a0 : 16 ≤ at') (n0 : 0 < n) (a1 : at' + n ≤ L)
    (h : kt.Rd w (some ⟨g, at', none⟩) n l) (hA : w.cell? ⟨A, 0, none⟩ = some (.int .u64 v)) (hf : w.frozen? ⟨A, 0, none⟩ = false) :
    Calls Tryz.prog 44 #[.pointer (some ⟨p, 0, none⟩), .int .u64 at', .int .i64 n, .bool true, .func (.func 46) #[] #[.pointer (some ⟨A, 0, none⟩)]] w fun e w' => e = .returned (.int .i64 0) ∧ w.setCell ⟨A, 0, none⟩ (.int .u64 (wd.getV l)) = w' := by
  have hmf : ∀ (fn : Fn) (first cap : Array Value) (w : World), (Instr.makeFunc fn first cap).run Tryz.prog w = .ok (.func fn first cap) w := fun _ _ _ _ => rfl
  have H := bl.hid h
  clear h
  go_enter Tryz.func44, Tryz.ntmps44
  go_wp2_with fail
  refine (none_no p g L cap _ hc).mono ?_
  rintro e w' ⟨rfl, rfl⟩
  go_wp2_with fail
  refine (cut_pos p g L cap at' n _ hc hL hcap a0 n0 a1).mono ?_
  rintro e w' ⟨rfl, rfl⟩
  go_wp2_with fail
  refine (load_in _ n n l A v _ H.out hA hf).mono ?_
  rintro e w' ⟨rfl, rfl⟩
  go_wp2
  go_ret
  exact ⟨rfl, rfl⟩
theorem load_ok (p g at' n : Nat) (l : List Int) (w : World) (h : IsMem w p g l) (hn : n = 1 ∨ n = 2 ∨ n = 4 ∨ n = 8) (a0 : 16 ≤ at') (a1 : at' + n ≤ l.length) :
    Calls Tryz.prog 18 #[.pointer (some ⟨p, 0, none⟩), .int .u64 at', .int .i64 n] w fun e w' => e = .returned (.tuple #[.int .u64 (wd.leV ((l.drop at').take n)), .int .i64 0]) ∧ Below w.heap.size w w' := by
  have hmf : ∀ (fn : Fn) (first cap : Array Value) (w : World), (Instr.makeFunc fn first cap).run Tryz.prog w = .ok (.func fn first cap) w := fun _ _ _ _ => rfl
  have h2 := h.keep (kt.below_row (.cells #[.int .u64 0] 24))
  obtain ⟨cap, hcap, hc⟩ := h2.cell
  have HR := bl.hid (h2.rd at' n a1)
  have hL := h.size
  have hlen : ((l.drop at').take n).length = n := by rw [List.length_take, List.length_drop]; omega
  have hv : wd.getV ((l.drop at').take n) = wd.leV ((l.drop at').take n) := if_pos (by rw [hlen]; exact hn)
  have HV := bl.hid hv
  have HN := bl.hid hn
  have n0 : 0 < n := by omega
  clear h h2 hlen hv hn
  go_enter Tryz.func18, Tryz.ntmps18
  go_wp2_with fail
  refine (sized_yes n _ HN.out).mono ?_
  rintro e w' ⟨rfl, rfl⟩
  go_wp2_with fail
  refine (access_load p g l.length cap at' n w.heap.size 0 ((l.drop at').take n) _ hc hL hcap a0 n0 a1 HR.out (by simp) (by simp)).mono ?_
  rw [HV.out]
  rintro e w' ⟨rfl, rfl⟩
  go_wp2
  go_ret2
  exact ⟨rfl, kt.below_row _⟩
theorem load_out (p g : Nat) (at' : Int) (n : Nat) (l : List Int) (w : World) (h : IsMem w p g l) (hn : n = 1 ∨ n = 2 ∨ n = 4 ∨ n = 8) (a0 : 0 ≤ at') (a1 : at' < 18446744073709551616) (hf : at' < 16 ∨ (l.length : Int) < at' + n) :
    Calls Tryz.prog 18 #[.pointer (some ⟨p, 0, none⟩), .int .u64 at', .int .i64 n] w fun e w' => e = .returned (.tuple #[.int .u64 0, .int .i64 15]) ∧ Below w.heap.size w w' := by
  have hmf : ∀ (fn : Fn) (first cap : Array Value) (w : World), (Instr.makeFunc fn first cap).run Tryz.prog w = .ok (.func fn first cap) w := fun _ _ _ _ => rfl
  have h2 := h.keep (kt.below_row (.cells #[.int .u64 0] 24))
  obtain ⟨cap, hcap, hc⟩ := h2.cell
  have hL := h.size
  have HN := bl.hid hn
  have HF := bl.hid hf
  have n9 : n < 9 := by omega
  clear h h2 hn hf
  go_enter Tryz.func18, Tryz.ntmps18
  go_wp2_with fail
  refine (sized_yes n _ HN.out).mono ?_
  rintro e w' ⟨rfl, rfl⟩
  go_wp2_with fail
  refine (access_out p g l.length cap at' n _ _ hc hL a0 a1 (by omega) (by omega) HF.out).mono ?_
  rintro e w' ⟨rfl, rfl⟩
  go_wp2
  go_ret2
  exact ⟨rfl, kt.below_row _⟩
theorem load_odd (p g : Nat) (at' n : Int) (l : List Int) (w : World) (h : IsMem w p g l) (hn : ¬ (n = 1 ∨ n = 2 ∨ n = 4 ∨ n = 8)) :
    Calls Tryz.prog 18 #[.pointer (some ⟨p, 0, none⟩), .int .u64 at', .int .i64 n] w fun e w' => e = .returned (.tuple #[.int .u64 0, .int .i64 2]) ∧ Below w.heap.size w w' := by
  have hmf : ∀ (fn : Fn) (first cap : Array Value) (w : World), (Instr.makeFunc fn first cap).run Tryz.prog w = .ok (.func fn first cap) w := fun _ _ _ _ => rfl
  have h2 := h.keep (kt.below_row (.cells #[.int .u64 0] 24))
  obtain ⟨cap, hcap, hc⟩ := h2.cell
  have HN := bl.hid hn
  clear h h2 hn
  go_enter Tryz.func18, Tryz.ntmps18
  go_wp2_with fail
  refine (sized_no n _ HN.out).mono ?_
  rintro e w' ⟨rfl, rfl⟩
  go_wp2_with fail
  refine (access_not p g l.length cap at' n _ _ hc).mono ?_
  rintro e w' ⟨rfl, rfl⟩
  go_wp2
  go_ret2
  exact ⟨rfl, kt.below_row _⟩
/-- Load, for every place and size -/
theorem load_any (p g : Nat) (at' n : Int) (l : List Int) (w : World) (h : IsMem w p g l) (a0 : 0 ≤ at') (a1 : at' < 18446744073709551616) :
    Calls Tryz.prog 18 #[.pointer (some ⟨p, 0, none⟩), .int .u64 at', .int .i64 n] w fun e w' => e = .returned (.tuple #[.int .u64 (pl.ldV l at' n), .int .i64 (pl.ldE l at' n)]) ∧ Below w.heap.size w w' := by
  by_cases hn : n = 1 ∨ n = 2 ∨ n = 4 ∨ n = 8
  · have hs : pl.sizB n = true := decide_eq_true hn
    obtain ⟨k, rfl⟩ : ∃ k : Nat, n = k := ⟨n.toNat, by omega⟩
    by_cases hf : 16 ≤ at' ∧ 0 ≤ (k : Int) ∧ at' + k ≤ l.length
    · have hff : pl.fit l at' k = true := decide_eq_true hf
      obtain ⟨b, rfl⟩ : ∃ b : Nat, at' = b := ⟨at'.toNat, by omega⟩
      rw [show pl.ldV l b k = wd.leV ((l.drop b).take k) by simp [pl.ldV, hs, hff], show pl.ldE l b k = 0 by simp [pl.ldE, hs, hff]]
      exact load_ok p g b k l w h (by omega) (by omega) (by omega)
    · have hff : pl.fit l at' k = false := decide_eq_false hf
      rw [show pl.ldV l at' k = 0 by simp [pl.ldV, hff], show pl.ldE l at' k = 15 by simp [pl.ldE, hs, hff]]
      exact load_out p g at' k l w h (by omega) a0 a1 (by omega)
  · have hs : pl.sizB n = false := decide_eq_false hn
    rw [show pl.ldV l at' n = 0 by simp [pl.ldV, hs], show pl.ldE l at' n = 2 by simp [pl.ldE, hs]]
    exact load_odd p g at' n l w h hn
theorem load_nil (at' n : Int) (w : World) : Calls Tryz.prog 18 #[.pointer none, .int .u64 at', .int .i64 n] w fun e w' => e = .returned (.tuple #[.int .u64 0, .int .i64 1]) ∧ Below w.heap.size w w' := by
  have hmf : ∀ (fn : Fn) (first cap : Array Value) (w : World), (Instr.makeFunc fn first cap).run Tryz.prog w = .ok (.func fn first cap) w := fun _ _ _ _ => rfl
  by_cases hn : n = 1 ∨ n = 2 ∨ n = 4 ∨ n = 8
  · obtain ⟨k, rfl⟩ : ∃ k : Nat, n = k := ⟨n.toNat, by omega⟩
    have HN : Hid (k = 1 ∨ k = 2 ∨ k = 4 ∨ k = 8) := bl.hid (by omega)
    clear hn
    go_enter Tryz.func18, Tryz.ntmps18
    go_wp2_with fail
    refine (sized_yes k _ HN.out).mono ?_
    rintro e w' ⟨rfl, rfl⟩
    go_wp2_with fail
    refine (access_nil at' k true _ _).mono ?_
    rintro e w' ⟨rfl, rfl⟩
    go_wp2
    go_ret2
    exact ⟨rfl, kt.below_row _⟩
  · have HN := bl.hid hn
    clear hn
    go_enter Tryz.func18, Tryz.ntmps18
    go_wp2_with fail
    refine (sized_no n _ HN.out).mono ?_
    rintro e w' ⟨rfl, rfl⟩
    go_wp2_with fail
    refine (access_nil at' n false _ _).mono ?_
    rintro e w' ⟨rfl, rfl⟩
    go_wp2
    go_ret2
    exact ⟨rfl, kt.below_row _⟩
end Go.Proofs.YtjjkocklpcdbkaaGreat
namespace Go.Proofs.YtjjkocklpcdbkaaGreat
open Go.RowKit
set_option linter.unusedVariables false
set_option maxRecDepth 100000

/-- bytes are laid over a row from place a on; only that row and new blocks have turned -/
def LaidPost (g a : Nat) (cur : List Value) (bs : List Int) (w : World) (e : Ending) (w' : World) : Prop :=
  e = .returned (.tuple #[]) ∧ w.grownBy w' (some g) ∧ w'.heap[g]? = some (.cells (cur.take a ++ (bs.map (Value.int .u8) ++ cur.drop (a + bs.length))).toArray 5 (0, 0))

theorem grown_of_row {w w1 : World} (hb : Below w.heap.size w w1) (g : Nat) (cs : Array Value) : w.grownBy (w1.setRow g cs) (some g) :=
  ⟨hb.os, hb.tape, hb.output, by rw [size_setRow]; exact hb.size, fun k hk hne => (setRow_other w1 g k cs (fun e => hne (by rw [e]))).trans (hb.block k hk)⟩

theorem store_in (g a n Vb Nb : Nat) (x : Int) (cur : List Value) (w : World) (hg : w.heap[g]? = some (.cells cur.toArray 5 (0, 0))) (hfit : a + n ≤ cur.length)
    (hV : w.cell? ⟨Vb, 0, none⟩ = some (.int .u64 x)) (hN : w.cell? ⟨Nb, 0, none⟩ = some (.int .i64 n)) (x0 : 0 ≤ x) (x1 : x < 18446744073709551616) (hn : n = 1 ∨ n = 2 ∨ n = 4 ∨ n = 8) :
    Calls Tryz.prog 119 #[.slice (some ⟨g, a, none⟩) n n, .pointer (some ⟨Vb, 0, none⟩), .pointer (some ⟨Nb, 0, none⟩)] w (LaidPost g a cur (wd.leB x n) w) := by
  have HG := bl.hid hg
  have HN := bl.hid hn
  have hgl := (Array.getElem?_eq_some_iff.1 hg).1
  clear hg hn
  go_enter Tryz.func119, Tryz.ntmps119
  go_wp2_with fail
  refine (put_lit x n _ x0 x1 HN.out).mono ?_
  rintro e w1 ⟨pa, pc, rfl, hown, hb⟩
  have hrd := Rd_own (wd.leB_bytes _ _) hown
  obtain ⟨b, off, hpa, -⟩ := hrd.2.2.resolve_left (by have := HN.out; omega)
  rw [hpa] at hrd
  rw [hpa]
  have HR := bl.hid hrd
  have HG1 : Hid (w1.heap[g]? = some (.cells cur.toArray 5 (0, 0))) := bl.hid ((hb.block g hgl).trans HG.out)
  clear hrd hown hpa
  go_wp2_with (refine wpList_copy_own rfl _ _ 25 25 rfl 5 Tryz.underlying25 (by kernel_rfl) g a n n ⟨b, off, none⟩ n pc rfl rfl cur.toArray 5 HG1.out ((wd.leB x n).map (Value.int .u8)) (by rw [List.length_map, wd.leB_length]; exact (Nat.min_self n).symm) HR.out.cells (by rw [List.length_map, wd.leB_length]; simpa using hfit) kt.u8_one ?_)
  go_end0
  refine ⟨rfl, grown_of_row hb g _, ?_⟩
  rw [setRow_heap w1 g cur.toArray _ _ _ HG1.out]
theorem access_store (p g L cap : Nat) (at' n Vb Nb : Nat) (x : Int) (cur : List Value) (w : World) (hc : w.cell? ⟨p, 0, none⟩ = some (.slice (some ⟨g, 0, none⟩) L cap)) (hL : L ≤ 65536) (hcap : L ≤ cap) (a0 : 16 ≤ at') (a1 : at' + n ≤ L)
    (hg : w.heap[g]? = some (.cells cur.toArray 5 (0, 0))) (hfit : L ≤ cur.length)
    (hV : w.cell? ⟨Vb, 0, none⟩ = some (.int .u64 x)) (hN : w.cell? ⟨Nb, 0, none⟩ = some (.int .i64 n)) (x0 : 0 ≤ x) (x1 : x < 18446744073709551616) (hn : n = 1 ∨ n = 2 ∨ n = 4 ∨ n = 8) :
    Calls Tryz.prog 44 #[.pointer (some ⟨p, 0, none⟩), .int .u64 at', .int .i64 n, .bool true, .func (.func 119) #[] #[.pointer (some ⟨Vb, 0, none⟩), .pointer (some ⟨Nb, 0, none⟩)]] w
      fun e w' => e = .returned (.int .i64 0) ∧ w.grownBy w' (some g) ∧ w'.heap[g]? = some (.cells (cur.take at' ++ ((wd.leB x n).map (Value.int .u8) ++ cur.drop (at' + n))).toArray 5 (0, 0)) := by
  have hmf : ∀ (fn : Fn) (first cap : Array Value) (w : World), (Instr.makeFunc fn first cap).run Tryz.prog w = .ok (.func fn first cap) w := fun _ _ _ _ => rfl
  have HG := bl.hid hg
  have HN := bl.hid hn
  have n0 : 0 < n := by omega
  clear hg hn
  go_enter Tryz.func44, Tryz.ntmps44
  go_wp2_with fail
  refine (none_no p g L cap _ hc).mono ?_
  rintro e w' ⟨rfl, rfl⟩
  go_wp2_with fail
  refine (cut_pos p g L cap at' n _ hc hL hcap a0 n0 a1).mono ?_
  rintro e w' ⟨rfl, rfl⟩
  go_wp2_with fail
  refine (store_in g at' n Vb Nb x cur _ HG.out (by omega) hV hN x0 x1 HN.out).mono ?_
  rintro e w1 ⟨rfl, hgr, hrow⟩
  rw [wd.leB_length] at hrow
  have HR := bl.hid hrow
  clear hrow
  go_wp2
  go_ret
  exact ⟨rfl, hgr, HR.out⟩
namespace pl
/-- what lies there behind a number that was stored -/
def st (l : List Int) (a n : Nat) (v : Int) : List Int := l.take a ++ (wd.leB v n ++ l.drop (a + n))
theorem st_length (l : List Int) (a n : Nat) (v : Int) (h : a + n ≤ l.length) : (st l a n v).length = l.length := by
  simp [st, wd.leB_length]
  omega
theorem st_bytes {l : List Int} (h : wd.isBytes l) (a n : Nat) (v : Int) : wd.isBytes (st l a n v) := by
  intro z hz
  rcases List.mem_append.1 hz with hz | hz
  · exact wd.isBytes_take h _ z hz
  · rcases List.mem_append.1 hz with hz | hz
    · exact wd.leB_bytes _ _ z hz
    · exact wd.isBytes_drop h _ z hz
end pl
theorem IsMem.stored {w w' : World} {p g : Nat} {l bs : List Int} (h : IsMem w p g l) (a : Nat) (hf : a + bs.length ≤ l.length) (hb : wd.isBytes bs) (hgr : w.grownBy w' (some g)) {rest : List Value} 
    (hr : w'.heap[g]? = some (.cells (((l.map (Value.int .u8)) ++ rest).take a ++ (bs.map (Value.int .u8) ++ ((l.map (Value.int .u8)) ++ rest).drop (a + bs.length))).toArray 5 (0, 0))) :
    IsMem w' p g (l.take a ++ (bs ++ l.drop (a + bs.length))) := by
  have hlen : (l.take a ++ (bs ++ l.drop (a + bs.length))).length = l.length := by simp; omega
  obtain ⟨cap, h2, h3⟩ := h.head
  refine ⟨h.apart, ⟨cap, by rw [hlen]; exact h2, ?_⟩, ⟨rest, ?_⟩, ?_, by rw [hlen]; exact h.size⟩
  · rw [hlen, hgr.block p h.lt.1 (by simpa using h.apart)]
    exact h3
  · rw [hr]
    congr 2
    rw [List.take_append_of_le_length (by simp; omega), List.drop_append_of_le_length (by simp; omega)]
    simp
  · intro z hz
    rcases List.mem_append.1 hz with hz | hz
    · exact wd.isBytes_take h.bytes _ z hz
    · rcases List.mem_append.1 hz with hz | hz
      · exact hb z hz
      · exact wd.isBytes_drop h.bytes _ z hz
theorem grown_trans {a b c : World} {r : Option Nat} (h : a.grownBy b r) (k : b.grownBy c r) : a.grownBy c r :=
  ⟨k.os.trans h.os, k.tape.trans h.tape, k.output.trans h.output, Nat.le_trans h.size k.size, fun i hi hne => (k.block i (Nat.lt_of_lt_of_le hi h.size) hne).trans (h.block i hi hne)⟩
theorem below_grown {a b : World} (h : Below a.heap.size a b) (r : Option Nat) : a.grownBy b r := ⟨h.os, h.tape, h.output, h.size, fun k hk _ => h.block k hk⟩
theorem alloc_grown (w : World) (o : Obj) (r : Option Nat) : w.grownBy (w.alloc o) r := World.grownBy_alloc w o r
theorem IsMem.drew {w : World} {p g : Nat} {l : List Int} (h : IsMem w p g l) : IsMem w.drew p g l := h.kept rfl rfl
theorem below_two (w : World) (o1 o2 : Obj) : Below w.heap.size w (((w.alloc o1).alloc o2).drew) :=
  (((Below.refl w.heap.size w).alloc (Nat.le_refl _) o1).alloc (by rw [World.size_alloc]; omega) o2).drew
theorem store_ok (p g at' n : Nat) (x : Int) (l : List Int) (w : World) (h : IsMem w p g l) (hn : n = 1 ∨ n = 2 ∨ n = 4 ∨ n = 8) (x0 : 0 ≤ x) (x1 : x < 18446744073709551616) (a0 : 16 ≤ at') (a1 : at' + n ≤ l.length) :
    Calls Tryz.prog 105 #[.pointer (some ⟨p, 0, none⟩), .int .u64 at', .int .i64 n, .int .u64 x] w fun e w' => e = .returned (.int .i64 0) ∧ w.grownBy w' (some g) ∧ IsMem w' p g (pl.st l at' n x) := by
  have hmf : ∀ (fn : Fn) (first cap : Array Value) (w : World), (Instr.makeFunc fn first cap).run Tryz.prog w = .ok (.func fn first cap) w := fun _ _ _ _ => rfl
  have h4 := ((h.keep (kt.below_row (.cells #[.int .i64 n] 3))).keep (kt.below_row (.cells #[.int .u64 x] 24))).drew
  have hgw : w.grownBy ((w.alloc (.cells #[.int .i64 n] 3)).alloc (.cells #[.int .u64 x] 24)).drew (some g) := below_grown (below_two w _ _) _
  obtain ⟨cap, hcap, hc⟩ := h4.cell
  obtain ⟨rest, hr⟩ := h4.row
  have HN := bl.hid hn
  have HR := bl.hid hr
  have H4 := bl.hid h4
  have HW := bl.hid hgw
  have hL := h.size
  clear hn h4 hr hgw h
  go_enter Tryz.func105, Tryz.ntmps105
  go_wp2_with fail
  refine wp_region_still_tail 6 (by kernel_rfl) (by kernel_rfl) ?_
  simp only [List.take_succ_cons, List.take_zero, List.drop_succ_cons, List.drop_zero]
  change wpStill _ _ (World.drew _) _ _ _
  repeat still_step
  still_call ((sized_yes n _ HN.out).mono fun e w' h => ⟨h.1, h.2.symm⟩)
  repeat still_step
  refine wpStill_nil ?_
  change wpList _ _ _ _ _ (World.drew _)
  go_wp2_with fail
  refine (access_store p g l.length cap at' n (w.heap.size + 1) w.heap.size x _ _ hc hL hcap a0 a1 HR.out (by simp) (by simp) (by simp) x0 x1 HN.out).mono ?_
  rintro e w1 ⟨rfl, hgr, hrow⟩
  have hm := IsMem.stored (bs := wd.leB x n) H4.out at' (by rw [wd.leB_length]; exact a1) (wd.leB_bytes _ _) hgr (by rw [wd.leB_length]; exact hrow)
  rw [wd.leB_length] at hm
  have HM := bl.hid hm
  have HG := bl.hid (grown_trans HW.out hgr)
  clear hm hgr hrow
  go_wp2
  go_ret
  exact ⟨rfl, HG.out, HM.out⟩
theorem store_out (p g : Nat) (at' x : Int) (n : Nat) (l : List Int) (w : World) (h : IsMem w p g l) (hn : n = 1 ∨ n = 2 ∨ n = 4 ∨ n = 8) (a0 : 0 ≤ at') (a1 : at' < 18446744073709551616) (hf : at' < 16 ∨ (l.length : Int) < at' + n) :
    Calls Tryz.prog 105 #[.pointer (some ⟨p, 0, none⟩), .int .u64 at', .int .i64 n, .int .u64 x] w fun e w' => e = .returned (.int .i64 15) ∧ Below w.heap.size w w' := by
  have hmf : ∀ (fn : Fn) (first cap : Array Value) (w : World), (Instr.makeFunc fn first cap).run Tryz.prog w = .ok (.func fn first cap) w := fun _ _ _ _ => rfl
  have h4 := ((h.keep (kt.below_row (.cells #[.int .i64 n] 3))).keep (kt.below_row (.cells #[.int .u64 x] 24))).drew
  obtain ⟨cap, hcap, hc⟩ := h4.cell
  have HN := bl.hid hn
  have HF := bl.hid hf
  have n9 : n < 9 := by omega
  have hL := h.size
  clear hn h4 h hf
  go_enter Tryz.func105, Tryz.ntmps105
  go_wp2_with fail
  refine wp_region_still_tail 6 (by kernel_rfl) (by kernel_rfl) ?_
  simp only [List.take_succ_cons, List.take_zero, List.drop_succ_cons, List.drop_zero]
  change wpStill _ _ (World.drew _) _ _ _
  repeat still_step
  still_call ((sized_yes n _ HN.out).mono fun e w' h => ⟨h.1, h.2.symm⟩)
  repeat still_step
  refine wpStill_nil ?_
  change wpList _ _ _ _ _ (World.drew _)
  go_wp2_with fail
  refine (access_out p g l.length cap at' n _ _ hc hL a0 a1 (by omega) (by omega) HF.out).mono ?_
  rintro e w' ⟨rfl, rfl⟩
  go_wp2
  go_ret
  exact ⟨rfl, below_two w _ _⟩
theorem store_odd (p g : Nat) (at' x n : Int) (l : List Int) (w : World) (h : IsMem w p g l) (hn : ¬ (n = 1 ∨ n = 2 ∨ n = 4 ∨ n = 8)) :
    Calls Tryz.prog 105 #[.pointer (some ⟨p, 0, none⟩), .int .u64 at', .int .i64 n, .int .u64 x] w fun e w' => e = .returned (.int .i64 2) ∧ Below w.heap.size w w' := by
  have hmf : ∀ (fn : Fn) (first cap : Array Value) (w : World), (Instr.makeFunc fn first cap).run Tryz.prog w = .ok (.func fn first cap) w := fun _ _ _ _ => rfl
  have h4 := ((h.keep (kt.below_row (.cells #[.int .i64 n] 3))).keep (kt.below_row (.cells #[.int .u64 x] 24))).drew
  obtain ⟨cap, hcap, hc⟩ := h4.cell
  have HN := bl.hid hn
  clear hn h4 h
  go_enter Tryz.func105, Tryz.ntmps105
  go_wp2_with fail
  refine wp_region_still_tail 6 (by kernel_rfl) (by kernel_rfl) ?_
  simp only [List.take_succ_cons, List.take_zero, List.drop_succ_cons, List.drop_zero]
  change wpStill _ _ (World.drew _) _ _ _
  repeat still_step
  still_call ((sized_no n _ HN.out).mono fun e w' h => ⟨h.1, h.2.symm⟩)
  repeat still_step
  refine wpStill_nil ?_
  change wpList _ _ _ _ _ (World.drew _)
  go_wp2_with fail
  refine (access_not p g l.length cap at' n _ _ hc).mono ?_
  rintro e w' ⟨rfl, rfl⟩
  go_wp2
  go_ret
  exact ⟨rfl, below_two w _ _⟩
end Go.Proofs.YtjjkocklpcdbkaaGreat
namespace Go.Proofs.YtjjkocklpcdbkaaGreat
open Go.RowKit
set_option linter.unusedVariables false
set_option maxRecDepth 100000

namespace pl
/-- what lies there behind bytes that were laid -/
def lay (l : List Int) (a : Nat) (bs : List Int) : List Int := l.take a ++ (bs ++ l.drop (a + bs.length))
def layL (l : List Int) (a : Int) (bs : List Int) : List Int := if fit l a bs.length then lay l a.toNat bs else l
def layE (l : List Int) (a n : Int) : Int := if fit l a n then 0 else 15
def stL (l : List Int) (a n v : Int) : List Int := if sizB n && fit l a n then lay l a.toNat (wd.leB v n.toNat) else l
def byL (l : List Int) (a n : Int) : List Int := if fit l a n then (l.drop a.toNat).take n.toNat else []
def byE (l : List Int) (a n : Int) : Int := if 0 ≤ n then (if fit l a n then 0 else 15) else 2
theorem st_lay (l : List Int) (a n : Nat) (v : Int) : st l a n v = lay l a (wd.leB v n) := by unfold st lay; rw [wd.leB_length]
theorem byL_bytes {l : List Int} (h : wd.isBytes l) (a n : Int) : wd.isBytes (byL l a n) := by
  unfold byL
  split
  · exact wd.isBytes_take (wd.isBytes_drop h _) _
  · intro z hz
    cases hz
theorem lay_length (l : List Int) (a : Nat) (bs : List Int) (h : a + bs.length ≤ l.length) : (lay l a bs).length = l.length := by
  simp [lay]
  omega
theorem layL_length (l : List Int) (a : Int) (bs : List Int) : (layL l a bs).length = l.length := by
  unfold layL
  split
  · rename_i h
    have h2 := of_decide_eq_true h
    exact lay_length l a.toNat bs (by omega)
  · rfl
theorem stL_length (l : List Int) (a n v : Int) : (stL l a n v).length = l.length := by
  unfold stL
  split
  · rename_i h
    have h2 := of_decide_eq_true (Bool.and_eq_true _ _ ▸ h).2
    exact lay_length l a.toNat _ (by rw [wd.leB_length]; omega)
  · rfl
end pl
def StorePost (p g : Nat) (l : List Int) (a n v : Int) (w : World) (e : Ending) (w' : World) : Prop := e = .returned (.int .i64 (pl.ldE l a n)) ∧ w.grownBy w' (some g) ∧ IsMem w' p g (pl.stL l a n v)
/-- Store, for every place and size -/
theorem store_any (p g : Nat) (at' n x : Int) (l : List Int) (w : World) (h : IsMem w p g l) (a0 : 0 ≤ at') (a1 : at' < 18446744073709551616) (x0 : 0 ≤ x) (x1 : x < 18446744073709551616) :
    Calls Tryz.prog 105 #[.pointer (some ⟨p, 0, none⟩), .int .u64 at', .int .i64 n, .int .u64 x] w (StorePost p g l at' n x w) := by
  by_cases hn : n = 1 ∨ n = 2 ∨ n = 4 ∨ n = 8
  · have hs : pl.sizB n = true := decide_eq_true hn
    obtain ⟨k, rfl⟩ : ∃ k : Nat, n = k := ⟨n.toNat, by omega⟩
    by_cases hf : 16 ≤ at' ∧ 0 ≤ (k : Int) ∧ at' + k ≤ l.length
    · have hff : pl.fit l at' k = true := decide_eq_true hf
      obtain ⟨b, rfl⟩ : ∃ b : Nat, at' = b := ⟨at'.toNat, by omega⟩
      unfold StorePost
      rw [show pl.stL l b k x = pl.st l b k x by rw [pl.st_lay]; simp [pl.stL, hs, hff], show pl.ldE l b k = 0 by simp [pl.ldE, hs, hff]]
      exact store_ok p g b k x l w h (by omega) x0 x1 (by omega) (by omega)
    · have hff : pl.fit l at' k = false := decide_eq_false hf
      unfold StorePost
      rw [show pl.stL l at' k x = l by simp [pl.stL, hff], show pl.ldE l at' k = 15 by simp [pl.ldE, hs, hff]]
      exact (store_out p g at' x k l w h (by omega) a0 a1 (by omega)).mono fun e w' q => ⟨q.1, below_grown q.2 _, h.keep q.2⟩
  · have hs : pl.sizB n = false := decide_eq_false hn
    unfold StorePost
    rw [show pl.stL l at' n x = l by simp [pl.stL, hs], show pl.ldE l at' n = 2 by simp [pl.ldE, hs]]
    exact (store_odd p g at' x n l w h hn).mono fun e w' q => ⟨q.1, below_grown q.2 _, h.keep q.2⟩

/-! ### bytes.Clone; Bytes -/
set_option maxHeartbeats 400000 in
theorem clone_any (ad : Addr) (n c : Nat) (l : List Int) (w : World) (h : kt.Rd w (some ad) n l) (hn : n ≤ 140737488355328) :
    Calls Tryz.prog 72 #[.slice (some ad) n c] w (RowPost n l w) := by
  have q1 : ∀ (w : World) (a : Option Addr) (n c n' c' : Nat), (binOp .eql 25 (.slice a n c) (.slice none n' c')).run Tryz.prog w = .ok (.bool a.isNone) w := fun w a n c n' c' => Lib.run_eql_slice_nil w _ _ a n c n' c' Tryz.underlying25
  obtain ⟨i0, hi, hz0, hz1, hz2⟩ := info_parts u8_info
  have hemp := kt.Own.empty kt.IsU8 w 5 1
  have hn' := bl.hid hn
  have hl := bl.hid h.1
  have hb := bl.hid h.2.1
  by_cases h0 : n = 0
  · subst h0
    have e0 : l = [] := List.eq_nil_of_length_eq_zero h.1
    subst e0
    clear h hn
    go_enter Tryz.func72, Tryz.ntmps72
    go_wp2_with (at_builtin; refine kt.wpList_append_Own kt.IsU8 rfl _ _ 25 rfl w.heap.size 5 i0 (.int .u8 0) 1 1 Tryz.underlying25 hi hz0 hz1 hz2 rfl zero_u8 _ 0 [] rfl hemp ad 0 _ [] rfl rfl (by simp) (by simp) (by simp) (by unfold maxLen; omega) (by omega) (by simp) ?_)
    intro v' w1 hown' hgrow
    have hB1 := hemp.below_grown (kt.below_row _) (by simp) hgrow
    go_wp2
    go_ret
    obtain ⟨a', c', hv⟩ := hown'.shape
    exact ⟨a', c', bl.ret1 hv, by rw [← hv]; exact hown', hB1⟩
  · obtain ⟨b, off, ea, hc⟩ := h.2.2.resolve_left h0
    obtain rfl : ad = ⟨b, off, none⟩ := by simpa using ea
    have hR : kt.Rd (w.alloc (.cells #[] 5)) (some ⟨b, off, none⟩) n l := h.keep (kt.below_row _)
    have hR' := bl.hid hR
    clear h hn hc hR ea
    go_enter Tryz.func72, Tryz.ntmps72
    go_wp2_with (at_builtin; refine kt.wpList_append_Own kt.IsU8 rfl _ _ 25 rfl w.heap.size 5 i0 (.int .u8 0) 1 1 Tryz.underlying25 hi hz0 hz1 hz2 rfl zero_u8 _ 0 [] rfl hemp ⟨b, off, none⟩ n _ (l.map (Value.int .u8)) rfl (by have := hl.out; simp; omega) hR'.out.cells kt.u8_one (kt.u8_all hb.out) (by have := hn'.out; unfold maxLen; omega) (by have := hn'.out; omega) (by simp) ?_)
    intro v' w1 hown' hgrow
    have hB1 := hemp.below_grown (kt.below_row _) (by simp) hgrow
    try simp only [Nat.zero_add, List.nil_append] at hown'
    go_wp2
    go_ret
    obtain ⟨a', c', hv⟩ := hown'.shape
    exact ⟨a', c', bl.ret1 hv, by rw [← hv]; exact hown', hB1⟩
/-- the closure inside Bytes: a copy is made and its slice is stored into block A -/
def ClonedPost (E : Ending) (A n : Nat) (l : List Int) (w : World) (e : Ending) (w' : World) : Prop :=
  ∃ a c w1, e = E ∧ kt.Own kt.IsU8 w1 w.heap.size 5 1 (.slice a n c) n (l.map (Value.int .u8)) ∧ Below w.heap.size w w1 ∧ w1.setCell ⟨A, 0, none⟩ (.slice a n c) = w'
theorem bytes_in (ad : Addr) (n c A : Nat) (l : List Int) (v : Value) (w : World) (h : kt.Rd w (some ad) n l) (hn : n ≤ 140737488355328) (hA : w.cell? ⟨A, 0, none⟩ = some v) (hf : w.frozen? ⟨A, 0, none⟩ = false) (hAl : A < w.heap.size) :
    Calls Tryz.prog 71 #[.slice (some ad) n c, .pointer (some ⟨A, 0, none⟩)] w (ClonedPost (.returned (.tuple #[])) A n l w) := by
  have H := bl.hid h
  clear h
  go_enter Tryz.func71, Tryz.ntmps71
  go_wp2_with fail
  refine (clone_any ad n c l _ H.out hn).mono ?_
  rintro e w1 ⟨a1, c1, rfl, hown, hb1⟩
  have hA1 := (hb1.cell (p := ⟨A, 0, none⟩) hAl).trans hA
  have hf1 := (hb1.frozen (p := ⟨A, 0, none⟩) hAl).trans hf
  have HO := bl.hid hown
  clear hown hA hf
  go_wp2
  go_end0
  exact ⟨a1, c1, w1, rfl, HO.out, hb1, rfl⟩
theorem access_bytes (p g L cap : Nat) (at' n : Nat) (A : Nat) (v : Value) (l : List Int) (w : World) (hc : w.cell? ⟨p, 0, none⟩ = some (.slice (some ⟨g, 0, none⟩) L cap)) (hL : L ≤ 65536) (hcap : L ≤ cap) (a0 : 16 ≤ at') (n0 : 0 < n) (a1 : at' + n ≤ L)
    (h : kt.Rd w (some ⟨g, at', none⟩) n l) (hA : w.cell? ⟨A, 0, none⟩ = some v) (hf : w.frozen? ⟨A, 0, none⟩ = false) (hAl : A < w.heap.size) :
    Calls Tryz.prog 44 #[.pointer (some ⟨p, 0, none⟩), .int .u64 at', .int .i64 n, .bool true, .func (.func 71) #[] #[.pointer (some ⟨A, 0, none⟩)]] w (ClonedPost (.returned (.int .i64 0)) A n l w) := by
  have hmf : ∀ (fn : Fn) (first cap : Array Value) (w : World), (Instr.makeFunc fn first cap).run Tryz.prog w = .ok (.func fn first cap) w := fun _ _ _ _ => rfl
  have H := bl.hid h
  clear h
  go_enter Tryz.func44, Tryz.ntmps44
  go_wp2_with fail
  refine (none_no p g L cap _ hc).mono ?_
  rintro e w' ⟨rfl, rfl⟩
  go_wp2_with fail
  refine (cut_pos p g L cap at' n _ hc hL hcap a0 n0 a1).mono ?_
  rintro e w' ⟨rfl, rfl⟩
  go_wp2_with fail
  refine (bytes_in _ n n A l v _ H.out (by omega) hA hf hAl).mono ?_
  rintro e w' ⟨a1, c1, w1, rfl, hown, hb1, rfl⟩
  have HO := bl.hid hown
  clear hown
  go_wp2
  go_ret
  exact ⟨a1, c1, w1, rfl, HO.out, hb1, rfl⟩
theorem access_bytes0 (p g L cap : Nat) (at' : Nat) (A : Nat) (v : Value) (w : World) (hc : w.cell? ⟨p, 0, none⟩ = some (.slice (some ⟨g, 0, none⟩) L cap)) (hL : L ≤ 65536) (hcap : L ≤ cap) (a0 : 16 ≤ at') (a1 : at' ≤ L)
    (hA : w.cell? ⟨A, 0, none⟩ = some v) (hf : w.frozen? ⟨A, 0, none⟩ = false) (hAl : A < w.heap.size) :
    Calls Tryz.prog 44 #[.pointer (some ⟨p, 0, none⟩), .int .u64 at', .int .i64 0, .bool true, .func (.func 71) #[] #[.pointer (some ⟨A, 0, none⟩)]] w (ClonedPost (.returned (.int .i64 0)) A 0 [] w) := by
  have hmf : ∀ (fn : Fn) (first cap : Array Value) (w : World), (Instr.makeFunc fn first cap).run Tryz.prog w = .ok (.func fn first cap) w := fun _ _ _ _ => rfl
  go_enter Tryz.func44, Tryz.ntmps44
  go_wp2_with fail
  refine (none_no p g L cap _ hc).mono ?_
  rintro e w' ⟨rfl, rfl⟩
  go_wp2_with fail
  refine (cut_zero p g L cap at' _ hc hL hcap a0 a1).mono ?_
  rintro e w' ⟨rfl, rfl⟩
  go_wp2_with fail
  refine (bytes_in _ 0 0 A [] v _ (kt.Rd.nil _ _) (by omega) hA hf hAl).mono ?_
  rintro e w' ⟨a1, c1, w1, rfl, hown, hb1, rfl⟩
  have HO := bl.hid hown
  clear hown
  go_wp2
  go_ret
  exact ⟨a1, c1, w1, rfl, HO.out, hb1, rfl⟩
/-- bytes are told in new memory -/
def TellPost (l : List Int) (E : Int) (w : World) (e : Ending) (w' : World) : Prop :=
  ∃ a c, e = .returned (.tuple #[.slice a l.length c, .int .i64 E]) ∧ kt.Own kt.IsU8 w' w.heap.size 5 1 (.slice a l.length c) l.length (l.map (Value.int .u8)) ∧ Below w.heap.size w w'
theorem cloned_tell {n : Nat} {l : List Int} {w w1 : World} {o : Obj} {a : Option Addr} {c : Nat} (hown : kt.Own kt.IsU8 w1 (w.alloc o).heap.size 5 1 (.slice a n c) n (l.map (Value.int .u8))) (hb : Below (w.alloc o).heap.size (w.alloc o) w1) :
    kt.Own kt.IsU8 (w1.setCell ⟨w.heap.size, 0, none⟩ (.slice a n c)) w.heap.size 5 1 (.slice a n c) n (l.map (Value.int .u8)) ∧ Below w.heap.size w (w1.setCell ⟨w.heap.size, 0, none⟩ (.slice a n c)) := by
  have hs : (w.alloc o).heap.size = w.heap.size + 1 := World.size_alloc w o
  constructor
  · refine (hown.kept fun g hg => ?_).mono (by omega)
    exact Below.heap_setCell w1 ⟨w.heap.size, 0, none⟩ _ g (by have := (hown.lt g hg).1; show g ≠ w.heap.size; omega)
  · exact (((Below.refl w.heap.size w).alloc (Nat.le_refl _) o).trans (hb.mono (by omega))).setCell (by simp) _
theorem bytes_ok (p g at' n : Nat) (l : List Int) (w : World) (h : IsMem w p g l) (a0 : 16 ≤ at') (a1 : at' + n ≤ l.length) :
    Calls Tryz.prog 51 #[.pointer (some ⟨p, 0, none⟩), .int .u64 at', .int .i64 n] w (TellPost ((l.drop at').take n) 0 w) := by
  have hmf : ∀ (fn : Fn) (first cap : Array Value) (w : World), (Instr.makeFunc fn first cap).run Tryz.prog w = .ok (.func fn first cap) w := fun _ _ _ _ => rfl
  have h2 := h.keep (kt.below_row (.cells #[.slice none 0 0] 25))
  obtain ⟨cap, hcap, hc⟩ := h2.cell
  have HR := bl.hid (h2.rd at' n a1)
  have hL := h.size
  have hlen := bl.hid (show ((l.drop at').take n).length = n by rw [List.length_take, List.length_drop]; omega)
  have hd : decide ((n : Int) ≥ 0) = true := decide_eq_true (by omega)
  clear h h2
  by_cases h0 : n = 0
  · subst h0
    go_enter Tryz.func51, Tryz.ntmps51
    go_wp2_with fail
    refine (access_bytes0 p g l.length cap at' w.heap.size (.slice none 0 0) _ hc hL hcap a0 (by omega) (by simp) (by simp) (by simp)).mono ?_
    rintro e w' ⟨b1, c1, w1, rfl, hown, hb1, rfl⟩
    have hT := bl.hid (cloned_tell hown hb1)
    have hA1 : (w1.setCell ⟨w.heap.size, 0, none⟩ (.slice b1 0 c1)).cell? ⟨w.heap.size, 0, none⟩ = some (.slice b1 0 c1) := World.cell?_setCell_same _ _ _ (u := .slice none 0 0) ((hb1.cell (p := ⟨w.heap.size, 0, none⟩) (by simp)).trans (by simp))
    generalize w1.setCell ⟨w.heap.size, 0, none⟩ (.slice b1 0 c1) = w2 at *
    clear hown hb1
    go_wp2
    go_ret2
    exact ⟨b1, c1, rfl, hT.out⟩
  · have n0 : 0 < n := by omega
    clear h0
    go_enter Tryz.func51, Tryz.ntmps51
    go_wp2_with fail
    refine (access_bytes p g l.length cap at' n w.heap.size (.slice none 0 0) ((l.drop at').take n) _ hc hL hcap a0 n0 a1 HR.out (by simp) (by simp) (by simp)).mono ?_
    rintro e w' ⟨b1, c1, w1, rfl, hown, hb1, rfl⟩
    have hT := bl.hid (cloned_tell hown hb1)
    have hA1 : (w1.setCell ⟨w.heap.size, 0, none⟩ (.slice b1 n c1)).cell? ⟨w.heap.size, 0, none⟩ = some (.slice b1 n c1) := World.cell?_setCell_same _ _ _ (u := .slice none 0 0) ((hb1.cell (p := ⟨w.heap.size, 0, none⟩) (by simp)).trans (by simp))
    generalize w1.setCell ⟨w.heap.size, 0, none⟩ (.slice b1 n c1) = w2 at *
    clear hown hb1
    go_wp2
    go_ret2
    exact ⟨b1, c1, bl.ret2 (by show Value.slice b1 n c1 = _; rw [hlen.out]) rfl, by rw [hlen.out]; exact hT.out.1, hT.out.2⟩
end Go.Proofs.YtjjkocklpcdbkaaGreat
namespace Go.Proofs.YtjjkocklpcdbkaaGreat
open Go.RowKit
set_option linter.unusedVariables false
set_option maxRecDepth 100000

theorem own_nil (w : World) (B : Nat) (l : List Int) (h : l = []) : kt.Own kt.IsU8 w B 5 1 (.slice none l.length 0) l.length (l.map (Value.int .u8)) := by
  subst h
  exact kt.Own.nil _ _ _ _ _
theorem bytes_out (p g : Nat) (at' n : Int) (l : List Int) (w : World) (h : IsMem w p g l) (a0 : 0 ≤ at') (a1 : at' < 18446744073709551616) (n0 : 0 ≤ n) (n1 : n < 9223372036854775808) (hf : at' < 16 ∨ (l.length : Int) < at' + n) :
    Calls Tryz.prog 51 #[.pointer (some ⟨p, 0, none⟩), .int .u64 at', .int .i64 n] w (TellPost [] 15 w) := by
  have hmf : ∀ (fn : Fn) (first cap : Array Value) (w : World), (Instr.makeFunc fn first cap).run Tryz.prog w = .ok (.func fn first cap) w := fun _ _ _ _ => rfl
  have h2 := h.keep (kt.below_row (.cells #[.slice none 0 0] 25))
  obtain ⟨cap, hcap, hc⟩ := h2.cell
  have hL := h.size
  have HF := bl.hid hf
  clear h h2 hf
  go_enter Tryz.func51, Tryz.ntmps51
  go_wp2_with fail
  refine (access_out p g l.length cap at' n _ _ hc hL a0 a1 n0 n1 HF.out).mono ?_
  rintro e w' ⟨rfl, rfl⟩
  go_wp2
  go_ret2
  exact ⟨none, 0, rfl, own_nil _ _ [] rfl, kt.below_row _⟩
theorem bytes_neg (p g : Nat) (at' n : Int) (l : List Int) (w : World) (h : IsMem w p g l) (n0 : n < 0) :
    Calls Tryz.prog 51 #[.pointer (some ⟨p, 0, none⟩), .int .u64 at', .int .i64 n] w (TellPost [] 2 w) := by
  have hmf : ∀ (fn : Fn) (first cap : Array Value) (w : World), (Instr.makeFunc fn first cap).run Tryz.prog w = .ok (.func fn first cap) w := fun _ _ _ _ => rfl
  have h2 := h.keep (kt.below_row (.cells #[.slice none 0 0] 25))
  obtain ⟨cap, hcap, hc⟩ := h2.cell
  have hd : decide (0 ≤ n) = false := decide_eq_false (by omega)
  clear h h2
  go_enter Tryz.func51, Tryz.ntmps51
  go_wp2_with fail
  refine (access_not p g l.length cap at' n _ _ hc).mono ?_
  rintro e w' ⟨rfl, rfl⟩
  go_wp2
  go_ret2
  exact ⟨none, 0, rfl, own_nil _ _ [] rfl, kt.below_row _⟩
/-- Bytes, for every place and number -/
theorem bytes_any (p g : Nat) (at' n : Int) (l : List Int) (w : World) (h : IsMem w p g l) (a0 : 0 ≤ at') (a1 : at' < 18446744073709551616) (n1 : n < 9223372036854775808) :
    Calls Tryz.prog 51 #[.pointer (some ⟨p, 0, none⟩), .int .u64 at', .int .i64 n] w (TellPost (pl.byL l at' n) (pl.byE l at' n) w) := by
  by_cases hn : 0 ≤ n
  · obtain ⟨k, rfl⟩ : ∃ k : Nat, n = k := ⟨n.toNat, by omega⟩
    by_cases hf : 16 ≤ at' ∧ 0 ≤ (k : Int) ∧ at' + k ≤ l.length
    · have hff : pl.fit l at' k = true := decide_eq_true hf
      obtain ⟨b, rfl⟩ : ∃ b : Nat, at' = b := ⟨at'.toNat, by omega⟩
      rw [show pl.byL l b k = (l.drop b).take k by simp [pl.byL, hff], show pl.byE l b k = 0 by simp [pl.byE, hff]]
      exact bytes_ok p g b k l w h (by omega) (by omega)
    · have hff : pl.fit l at' k = false := decide_eq_false hf
      rw [show pl.byL l at' k = [] by simp [pl.byL, hff], show pl.byE l at' k = 15 by simp [pl.byE, hff]]
      exact bytes_out p g at' k l w h a0 a1 hn n1 (by omega)
  · have hff : pl.fit l at' n = false := decide_eq_false (by omega)
    rw [show pl.byL l at' n = [] by simp [pl.byL, hff], show pl.byE l at' n = 2 by simp [pl.byE, hn]]
    exact bytes_neg p g at' n l w h (by omega)

/-! ### Lay -/
theorem lay_in (g a n sc Bb : Nat) (sa : Option Addr) (bs : List Int) (cur : List Value) (w : World) (hg : w.heap[g]? = some (.cells cur.toArray 5 (0, 0))) (hfit : a + n ≤ cur.length) (n0 : 0 < n)
    (hB : w.cell? ⟨Bb, 0, none⟩ = some (.slice sa n sc)) (hr : kt.Rd w sa n bs) :
    Calls Tryz.prog 70 #[.slice (some ⟨g, a, none⟩) n n, .pointer (some ⟨Bb, 0, none⟩)] w (LaidPost g a cur bs w) := by
  obtain ⟨b, off, rfl, -⟩ := hr.2.2.resolve_left (by omega)
  have hlen := hr.1
  have HG := bl.hid hg
  have HR := bl.hid hr
  have HL := bl.hid hlen
  clear hg hr hlen
  go_enter Tryz.func70, Tryz.ntmps70
  go_wp2_with (refine wpList_copy_own rfl _ _ 25 25 rfl 5 Tryz.underlying25 (by kernel_rfl) g a n n ⟨b, off, none⟩ n sc rfl rfl cur.toArray 5 HG.out (bs.map (Value.int .u8)) (by rw [List.length_map, HL.out]; exact (Nat.min_self n).symm) HR.out.cells (by rw [List.length_map, HL.out]; simpa using hfit) kt.u8_one ?_)
  go_end0
  refine ⟨rfl, grown_of_row (Below.refl _ _) g _, ?_⟩
  rw [setRow_heap w g cur.toArray _ _ _ HG.out]
theorem lay_in0 (d : Option Addr) (sc Bb : Nat) (sa : Option Addr) (w : World) (hB : w.cell? ⟨Bb, 0, none⟩ = some (.slice sa 0 sc)) :
    Calls Tryz.prog 70 #[.slice d 0 0, .pointer (some ⟨Bb, 0, none⟩)] w fun e w' => e = .returned (.tuple #[]) ∧ w = w' := by
  go_enter Tryz.func70, Tryz.ntmps70
  go_wp2_with (refine wpList_copy_nothing rfl _ _ 25 25 rfl 5 Tryz.underlying25 (by kernel_rfl) d sa 0 0 0 sc rfl rfl rfl ?_)
  go_end0
  exact ⟨rfl, rfl⟩
theorem access_lay (p g L cap : Nat) (at' n sc Bb : Nat) (sa : Option Addr) (bs : List Int) (cur : List Value) (w : World) (hc : w.cell? ⟨p, 0, none⟩ = some (.slice (some ⟨g, 0, none⟩) L cap)) (hL : L ≤ 65536) (hcap : L ≤ cap) (a0 : 16 ≤ at') (a1 : at' + n ≤ L)
    (hg : w.heap[g]? = some (.cells cur.toArray 5 (0, 0))) (hfit : L ≤ cur.length) (n0 : 0 < n)
    (hB : w.cell? ⟨Bb, 0, none⟩ = some (.slice sa n sc)) (hr : kt.Rd w sa n bs) :
    Calls Tryz.prog 44 #[.pointer (some ⟨p, 0, none⟩), .int .u64 at', .int .i64 n, .bool true, .func (.func 70) #[] #[.pointer (some ⟨Bb, 0, none⟩)]] w
      fun e w' => e = .returned (.int .i64 0) ∧ w.grownBy w' (some g) ∧ w'.heap[g]? = some (.cells (cur.take at' ++ (bs.map (Value.int .u8) ++ cur.drop (at' + bs.length))).toArray 5 (0, 0)) := by
  have hmf : ∀ (fn : Fn) (first cap : Array Value) (w : World), (Instr.makeFunc fn first cap).run Tryz.prog w = .ok (.func fn first cap) w := fun _ _ _ _ => rfl
  have HG := bl.hid hg
  have HR := bl.hid hr
  clear hg hr
  go_enter Tryz.func44, Tryz.ntmps44
  go_wp2_with fail
  refine (none_no p g L cap _ hc).mono ?_
  rintro e w' ⟨rfl, rfl⟩
  go_wp2_with fail
  refine (cut_pos p g L cap at' n _ hc hL hcap a0 n0 a1).mono ?_
  rintro e w' ⟨rfl, rfl⟩
  go_wp2_with fail
  refine (lay_in g at' n sc Bb sa bs cur _ HG.out (by omega) n0 hB HR.out).mono ?_
  rintro e w1 ⟨rfl, hgr, hrow⟩
  have HW := bl.hid hrow
  clear hrow
  go_wp2
  go_ret
  exact ⟨rfl, hgr, HW.out⟩
theorem access_lay0 (p g L cap : Nat) (at' sc Bb : Nat) (sa : Option Addr) (w : World) (hc : w.cell? ⟨p, 0, none⟩ = some (.slice (some ⟨g, 0, none⟩) L cap)) (hL : L ≤ 65536) (hcap : L ≤ cap) (a0 : 16 ≤ at') (a1 : at' ≤ L)
    (hB : w.cell? ⟨Bb, 0, none⟩ = some (.slice sa 0 sc)) :
    Calls Tryz.prog 44 #[.pointer (some ⟨p, 0, none⟩), .int .u64 at', .int .i64 0, .bool true, .func (.func 70) #[] #[.pointer (some ⟨Bb, 0, none⟩)]] w
      fun e w' => e = .returned (.int .i64 0) ∧ w = w' := by
  have hmf : ∀ (fn : Fn) (first cap : Array Value) (w : World), (Instr.makeFunc fn first cap).run Tryz.prog w = .ok (.func fn first cap) w := fun _ _ _ _ => rfl
  go_enter Tryz.func44, Tryz.ntmps44
  go_wp2_with fail
  refine (none_no p g L cap _ hc).mono ?_
  rintro e w' ⟨rfl, rfl⟩
  go_wp2_with fail
  refine (cut_zero p g L cap at' _ hc hL hcap a0 a1).mono ?_
  rintro e w' ⟨rfl, rfl⟩
  go_wp2_with fail
  refine (lay_in0 _ sc Bb sa _ hB).mono ?_
  rintro e w' ⟨rfl, rfl⟩
  go_wp2
  go_ret
  exact ⟨rfl, rfl⟩
def LayPost (p g : Nat) (l : List Int) (a : Int) (bs : List Int) (w : World) (e : Ending) (w' : World) : Prop := e = .returned (.int .i64 (pl.layE l a bs.length)) ∧ w.grownBy w' (some g) ∧ IsMem w' p g (pl.layL l a bs)
theorem lay_ok (p g at' n sc : Nat) (sa : Option Addr) (bs : List Int) (l : List Int) (w : World) (h : IsMem w p g l) (hr : kt.Rd w sa n bs) (n0 : 0 < n) (a0 : 16 ≤ at') (a1 : at' + n ≤ l.length) :
    Calls Tryz.prog 48 #[.pointer (some ⟨p, 0, none⟩), .int .u64 at', .slice sa n sc] w fun e w' => e = .returned (.int .i64 0) ∧ w.grownBy w' (some g) ∧ IsMem w' p g (pl.lay l at' bs) := by
  have hmf : ∀ (fn : Fn) (first cap : Array Value) (w : World), (Instr.makeFunc fn first cap).run Tryz.prog w = .ok (.func fn first cap) w := fun _ _ _ _ => rfl
  have h4 := h.keep (kt.below_row (.cells #[.slice sa n sc] 25))
  have hr4 := hr.keep (kt.below_row (.cells #[.slice sa n sc] 25))
  obtain ⟨cap, hcap, hc⟩ := h4.cell
  obtain ⟨rest, hrow⟩ := h4.row
  have HR := bl.hid hrow
  have H4 := bl.hid h4
  have HB := bl.hid hr4
  have HL := bl.hid hr.1
  have hL := h.size
  clear h4 hrow h hr hr4
  go_enter Tryz.func48, Tryz.ntmps48
  go_wp2_with fail
  refine (access_lay p g l.length cap at' n sc w.heap.size sa bs _ _ hc hL hcap a0 a1 HR.out (by simp) n0 (by simp) HB.out).mono ?_
  rintro e w1 ⟨rfl, hgr, hrow⟩
  have hm := IsMem.stored (bs := bs) H4.out at' (by rw [HL.out]; exact a1) HB.out.2.1 hgr hrow
  have HM := bl.hid hm
  have HG := bl.hid (grown_trans (below_grown (kt.below_row _) _) hgr)
  clear hm hgr hrow
  go_wp2
  go_ret
  exact ⟨rfl, HG.out, HM.out⟩
theorem lay_ok0 (p g at' sc : Nat) (sa : Option Addr) (l : List Int) (w : World) (h : IsMem w p g l) (a0 : 16 ≤ at') (a1 : at' ≤ l.length) :
    Calls Tryz.prog 48 #[.pointer (some ⟨p, 0, none⟩), .int .u64 at', .slice sa 0 sc] w fun e w' => e = .returned (.int .i64 0) ∧ Below w.heap.size w w' := by
  have hmf : ∀ (fn : Fn) (first cap : Array Value) (w : World), (Instr.makeFunc fn first cap).run Tryz.prog w = .ok (.func fn first cap) w := fun _ _ _ _ => rfl
  have h4 := h.keep (kt.below_row (.cells #[.slice sa 0 sc] 25))
  obtain ⟨cap, hcap, hc⟩ := h4.cell
  have hL := h.size
  clear h4 h
  go_enter Tryz.func48, Tryz.ntmps48
  go_wp2_with fail
  refine (access_lay0 p g l.length cap at' sc w.heap.size sa _ hc hL hcap a0 a1 (by simp)).mono ?_
  rintro e w' ⟨rfl, rfl⟩
  go_wp2
  go_ret
  exact ⟨rfl, kt.below_row _⟩
theorem lay_out (p g : Nat) (at' : Int) (n sc : Nat) (sa : Option Addr) (l : List Int) (w : World) (h : IsMem w p g l) (a0 : 0 ≤ at') (a1 : at' < 18446744073709551616) (n1 : n < 9223372036854775808) (hf : at' < 16 ∨ (l.length : Int) < at' + n) :
    Calls Tryz.prog 48 #[.pointer (some ⟨p, 0, none⟩), .int .u64 at', .slice sa n sc] w fun e w' => e = .returned (.int .i64 15) ∧ Below w.heap.size w w' := by
  have hmf : ∀ (fn : Fn) (first cap : Array Value) (w : World), (Instr.makeFunc fn first cap).run Tryz.prog w = .ok (.func fn first cap) w := fun _ _ _ _ => rfl
  have h4 := h.keep (kt.below_row (.cells #[.slice sa n sc] 25))
  obtain ⟨cap, hcap, hc⟩ := h4.cell
  have hL := h.size
  have HF := bl.hid hf
  clear h4 h hf
  go_enter Tryz.func48, Tryz.ntmps48
  go_wp2_with fail
  refine (access_out p g l.length cap at' n _ _ hc hL a0 a1 (by omega) (by omega) HF.out).mono ?_
  rintro e w' ⟨rfl, rfl⟩
  go_wp2
  go_ret
  exact ⟨rfl, kt.below_row _⟩
/-- Lay, for every place and bytes -/
theorem lay_any (p g : Nat) (at' : Int) (n sc : Nat) (sa : Option Addr) (bs : List Int) (l : List Int) (w : World) (h : IsMem w p g l) (hr : kt.Rd w sa n bs) (a0 : 0 ≤ at') (a1 : at' < 18446744073709551616) (n1 : n < 9223372036854775808) :
    Calls Tryz.prog 48 #[.pointer (some ⟨p, 0, none⟩), .int .u64 at', .slice sa n sc] w (LayPost p g l at' bs w) := by
  have hlen := hr.1
  by_cases hf : 16 ≤ at' ∧ 0 ≤ (bs.length : Int) ∧ at' + bs.length ≤ l.length
  · have hff : pl.fit l at' bs.length = true := decide_eq_true hf
    obtain ⟨b, rfl⟩ : ∃ b : Nat, at' = b := ⟨at'.toNat, by omega⟩
    unfold LayPost
    rw [show pl.layL l b bs = pl.lay l b bs by simp [pl.layL, hff], show pl.layE l b bs.length = 0 by simp [pl.layE, hff]]
    by_cases h0 : n = 0
    · subst h0
      obtain rfl : bs = [] := List.eq_nil_of_length_eq_zero hlen
      rw [show pl.lay l b [] = l by simp [pl.lay]]
      exact (lay_ok0 p g b sc sa l w h (by omega) (by simp at hf; omega)).mono fun e w' q => ⟨q.1, below_grown q.2 _, h.keep q.2⟩
    · exact lay_ok p g b n sc sa bs l w h hr (by omega) (by omega) (by omega)
  · have hff : pl.fit l at' bs.length = false := decide_eq_false hf
    unfold LayPost
    rw [show pl.layL l at' bs = l by simp [pl.layL, hff], show pl.layE l at' bs.length = 15 by simp [pl.layE, hff]]
    exact (lay_out p g at' n sc sa l w h a0 a1 n1 (by omega)).mono fun e w' q => ⟨q.1, below_grown q.2 _, h.keep q.2⟩
end Go.Proofs.YtjjkocklpcdbkaaGreat
namespace Go.Proofs.YtjjkocklpcdbkaaGreat
open Go.RowKit
set_option linter.unusedVariables false
set_option maxRecDepth 100000

theorem size_any (p g n cap : Nat) (w : World) (hc : w.cell? ⟨p, 0, none⟩ = some (.slice (some ⟨g, 0, none⟩) n cap)) :
    Calls Tryz.prog 50 #[.pointer (some ⟨p, 0, none⟩)] w fun e w' => e = .returned (.int .i64 n) ∧ w = w' := by
  go_enter Tryz.func50, Tryz.ntmps50
  go_wp2_with fail
  refine (none_no p g n cap _ hc).mono ?_
  rintro e w' ⟨rfl, rfl⟩
  go_wp2
  go_ret
  exact ⟨rfl, rfl⟩
/-- another memory, in new blocks -/
def CopiedPost (l : List Int) (w : World) (e : Ending) (w' : World) : Prop :=
  ∃ p g, e = .returned (.pointer (some ⟨p, 0, none⟩)) ∧ w.heap.size ≤ p ∧ w.heap.size ≤ g ∧ IsMem w' p g l ∧ Below w.heap.size w w'
theorem isMem_boxed {w : World} {B : Nat} {a : Option Addr} {c : Nat} {l : List Int} (hb : wd.isBytes l) (hl : 0 < l.length) (hL : l.length ≤ 65536) (hown : kt.Own kt.IsU8 w B 5 1 (.slice a l.length c) l.length (l.map (Value.int .u8))) :
    ∃ g, B ≤ g ∧ IsMem (w.alloc (.cells #[.slice a l.length c] 112)) w.heap.size g l := by
  rcases hown.2 with ⟨_, h0⟩ | ⟨g, cap, cur, hv, h2, h3, h4, h5, h6, h7, h8⟩
  · omega
  · simp only [Value.slice.injEq] at hv
    obtain ⟨rfl, -, rfl⟩ := hv
    have hg := (Array.getElem?_eq_some_iff.1 h3).1
    refine ⟨g, h2, by omega, ⟨c, h4, heap_alloc_new w _⟩, ⟨cur.drop l.length, ?_⟩, hb, hL⟩
    rw [heap_alloc_old w _ hg, h3]
    congr 2
    rw [← List.take_append_drop l.length cur, ← h7]
    simp
theorem IsMem.drewN {w : World} {p g : Nat} {l : List Int} (h : IsMem w p g l) (n : Nat) : IsMem (w.drewN n) p g l := h.kept rfl rfl
theorem below_drewN' (w : World) (n : Nat) : Below w.heap.size w (w.drewN n) := ⟨rfl, rfl, rfl, Nat.le_refl _, fun _ _ => rfl⟩
end Go.Proofs.YtjjkocklpcdbkaaGreat
namespace Go.Proofs.YtjjkocklpcdbkaaGreat
open Go.RowKit
set_option linter.unusedVariables false
set_option maxRecDepth 100000

theorem cells_zero (n : Nat) : (madeCells #[Value.int .u8 0] n).toList = (List.replicate n (0 : Int)).map (Value.int .u8) := by
  refine List.ext_getElem (by simp [madeCells]) fun i h1 h2 => ?_
  simp [madeCells, Nat.mod_one]
theorem row_of_own {w : World} {B g n c : Nat} {xs : List Value} (h : w.ownsRow B 5 1 (.slice (some ⟨g, 0, none⟩) n c) n xs) : n ≤ c ∧ ∃ rest : List Value, w.heap[g]? = some (.cells (xs ++ rest).toArray 5 (0, 0)) := by
  rcases h.2 with ⟨hv, _⟩ | ⟨g', cap, cur, hv, h2, h3, h4, h5, h6, h7⟩
  · cases hv
  · simp only [Value.slice.injEq, Option.some.injEq, Addr.mk.injEq] at hv
    obtain ⟨⟨rfl, -, -⟩, -, rfl⟩ := hv
    refine ⟨h4, cur.toList.drop (n * 1), ?_⟩
    rw [h3, ← h7]
    simp
theorem isBytes_zero (n : Nat) : wd.isBytes (List.replicate n (0 : Int)) := by
  intro z hz
  rw [List.eq_of_mem_replicate hz]
  omega
def NewPost (n : Nat) (w : World) (e : Ending) (w' : World) : Prop :=
  ∃ p g, e = .returned (.tuple #[.pointer (some ⟨p, 0, none⟩), .int .i64 0]) ∧ w.heap.size ≤ p ∧ w.heap.size ≤ g ∧ IsMem w' p g (List.replicate n 0) ∧ Below w.heap.size w w'
theorem new_ok (n : Nat) (w : World) (h0 : 16 ≤ n) (h1 : n ≤ 65536) : Calls Tryz.prog 40 #[.int .i64 n] w (NewPost n w) := by
  obtain ⟨i0, hi, hz0, hz1, hz2⟩ := info_parts u8_info
  have n1 : decide ((n : Int) < 16) = false := decide_eq_false (by omega)
  have n2 : decide ((65536 : Int) < (n : Int)) = false := decide_eq_false (by omega)
  go_enter Tryz.func40, Tryz.ntmps40
  go_wp2_with (refine wpList_make_full _ rfl _ _ 25 rfl w.heap.size 5 i0 (.int .u8 0) 1 Tryz.underlying25 hi hz0 hz1 .i64 .i64 _ _ n rfl rfl rfl rfl (by rw [hz2]; omega) (by unfold maxLen; omega) (Nat.le_refl _) ?_)
  intro w1 hown hgr
  have hrow := row_of_own hown
  have hl := (hown.lt w.heap.size rfl).2
  have hb : Below w.heap.size w w1 := (Below.refl _ _).grown hgr (Nat.le_refl _) (fun k hk => by cases hk)
  have hm : IsMem (w1.alloc (.cells #[.slice (some ⟨w.heap.size, 0, none⟩) n n] 112)) w1.heap.size w.heap.size (List.replicate n 0) := by
    obtain ⟨_, rest, hr⟩ := hrow
    refine ⟨by omega, ⟨n, by simp, by rw [List.length_replicate]; exact heap_alloc_new w1 _⟩, ⟨rest, ?_⟩, isBytes_zero n, by simpa using h1⟩
    rw [heap_alloc_old w1 _ hl, hr, cells_zero]
  have HM := bl.hid hm
  clear hm hown hgr hrow
  go_wp2
  go_ret2
  exact ⟨_, _, rfl, hb.size, Nat.le_refl _, HM.out, hb.alloc hb.size _⟩
theorem new_no (n : Int) (w : World) (h : n < 16 ∨ 65536 < n) : Calls Tryz.prog 40 #[.int .i64 n] w fun e w' => e = .returned (.tuple #[.pointer none, .int .i64 2]) ∧ w = w' := by
  by_cases h1 : n < 16
  · clear h
    go_enter Tryz.func40, Tryz.ntmps40
    go_wp2
    go_ret2
    exact ⟨rfl, rfl⟩
  · have h2 : 65536 < n := by omega
    clear h
    go_enter Tryz.func40, Tryz.ntmps40
    go_wp2
    go_ret2
    exact ⟨rfl, rfl⟩

/-! ### what nobody made: nil, or a struct without bytes -/
/-- the pointer m is nil, or is to a struct without bytes -/
def NoMem (w : World) (m : Value) : Prop := m = .pointer none ∨ ∃ p n c, m = .pointer (some ⟨p, 0, none⟩) ∧ w.cell? ⟨p, 0, none⟩ = some (.slice none n c)
theorem NoMem.keep {w w' : World} {m : Value} (h : NoMem w m) (hb : Below w.heap.size w w') : NoMem w' m := by
  rcases h with h | ⟨p, n, c, h1, h2⟩
  · exact .inl h
  · exact .inr ⟨p, n, c, h1, (hb.cell (p := ⟨p, 0, none⟩) (block_lt_of_cell h2)).trans h2⟩
theorem none_not (m : Value) (w : World) (h : NoMem w m) : Calls Tryz.prog 67 #[m] w fun e w' => e = .returned (.bool true) ∧ w = w' := by
  rcases h with rfl | ⟨p, n, c, rfl, hc⟩
  · exact none_nil w
  · exact none_empty p n c w hc
theorem access_none (m : Value) (at' n : Int) (may : Bool) (f : Value) (w : World) (h : NoMem w m) : Calls Tryz.prog 44 #[m, .int .u64 at', .int .i64 n, .bool may, f] w fun e w' => e = .returned (.int .i64 1) ∧ w = w' := by
  rcases h with rfl | ⟨p, k, c, rfl, hc⟩
  · exact access_nil at' n may f w
  · exact access_empty p k c at' n may f w hc
/-- is that a size of a number: for any number -/
theorem sized_any (n : Int) (w : World) : Calls Tryz.prog 45 #[.int .i64 n] w fun e w' => e = .returned (.bool (pl.sizB n)) ∧ w = w' := by
  by_cases h : n = 1 ∨ n = 2 ∨ n = 4 ∨ n = 8
  · obtain ⟨k, rfl⟩ : ∃ k : Nat, n = k := ⟨n.toNat, by omega⟩
    rw [show pl.sizB k = true from decide_eq_true h]
    exact sized_yes k w (by omega)
  · rw [show pl.sizB n = false from decide_eq_false h]
    exact sized_no n w h
theorem load_none (m : Value) (at' n : Int) (w : World) (h : NoMem w m) : Calls Tryz.prog 18 #[m, .int .u64 at', .int .i64 n] w fun e w' => e = .returned (.tuple #[.int .u64 0, .int .i64 1]) ∧ Below w.heap.size w w' := by
  have hmf : ∀ (fn : Fn) (first cap : Array Value) (w : World), (Instr.makeFunc fn first cap).run Tryz.prog w = .ok (.func fn first cap) w := fun _ _ _ _ => rfl
  have H := bl.hid (h.keep (kt.below_row (.cells #[.int .u64 0] 24)))
  clear h
  go_enter Tryz.func18, Tryz.ntmps18
  go_wp2_with fail
  refine (sized_any n _).mono ?_
  rintro e w' ⟨rfl, rfl⟩
  go_wp2_with fail
  refine (access_none m at' n _ _ _ H.out).mono ?_
  rintro e w' ⟨rfl, rfl⟩
  go_wp2
  go_ret2
  exact ⟨rfl, kt.below_row _⟩
theorem bytes_none (m : Value) (at' n : Int) (w : World) (h : NoMem w m) : Calls Tryz.prog 51 #[m, .int .u64 at', .int .i64 n] w fun e w' => e = .returned (.tuple #[.slice none 0 0, .int .i64 1]) ∧ Below w.heap.size w w' := by
  have hmf : ∀ (fn : Fn) (first cap : Array Value) (w : World), (Instr.makeFunc fn first cap).run Tryz.prog w = .ok (.func fn first cap) w := fun _ _ _ _ => rfl
  have H := bl.hid (h.keep (kt.below_row (.cells #[.slice none 0 0] 25)))
  clear h
  go_enter Tryz.func51, Tryz.ntmps51
  go_wp2_with fail
  refine (access_none m at' n _ _ _ H.out).mono ?_
  rintro e w' ⟨rfl, rfl⟩
  go_wp2
  go_ret2
  exact ⟨rfl, kt.below_row _⟩
theorem lay_none (m : Value) (at' : Int) (a : Option Addr) (n c : Nat) (w : World) (h : NoMem w m) : Calls Tryz.prog 48 #[m, .int .u64 at', .slice a n c] w fun e w' => e = .returned (.int .i64 1) ∧ Below w.heap.size w w' := by
  have hmf : ∀ (fn : Fn) (first cap : Array Value) (w : World), (Instr.makeFunc fn first cap).run Tryz.prog w = .ok (.func fn first cap) w := fun _ _ _ _ => rfl
  have H := bl.hid (h.keep (kt.below_row (.cells #[.slice a n c] 25)))
  clear h
  go_enter Tryz.func48, Tryz.ntmps48
  go_wp2_with fail
  refine (access_none m at' n _ _ _ H.out).mono ?_
  rintro e w' ⟨rfl, rfl⟩
  go_wp2
  go_ret
  exact ⟨rfl, kt.below_row _⟩
theorem store_none (m : Value) (at' n x : Int) (w : World) (h : NoMem w m) : Calls Tryz.prog 105 #[m, .int .u64 at', .int .i64 n, .int .u64 x] w fun e w' => e = .returned (.int .i64 1) ∧ Below w.heap.size w w' := by
  have hmf : ∀ (fn : Fn) (first cap : Array Value) (w : World), (Instr.makeFunc fn first cap).run Tryz.prog w = .ok (.func fn first cap) w := fun _ _ _ _ => rfl
  have H := bl.hid (h.keep (below_two w (.cells #[.int .i64 n] 3) (.cells #[.int .u64 x] 24)))
  clear h
  go_enter Tryz.func105, Tryz.ntmps105
  go_wp2_with fail
  refine wp_region_still_tail 6 (by kernel_rfl) (by kernel_rfl) ?_
  simp only [List.take_succ_cons, List.take_zero, List.drop_succ_cons, List.drop_zero]
  change wpStill _ _ (World.drew _) _ _ _
  repeat still_step
  still_call ((sized_any n _).mono fun e w' h => ⟨h.1, h.2.symm⟩)
  repeat still_step
  refine wpStill_nil ?_
  change wpList _ _ _ _ _ (World.drew _)
  go_wp2_with fail
  refine (access_none m at' n _ _ _ H.out).mono ?_
  rintro e w' ⟨rfl, rfl⟩
  go_wp2
  go_ret
  exact ⟨rfl, below_two w _ _⟩
theorem size_none (m : Value) (w : World) (h : NoMem w m) : Calls Tryz.prog 50 #[m] w fun e w' => e = .returned (.int .i64 0) ∧ w = w' := by
  have H := bl.hid h
  clear h
  go_enter Tryz.func50, Tryz.ntmps50
  go_wp2_with fail
  refine (none_not m _ H.out).mono ?_
  rintro e w' ⟨rfl, rfl⟩
  go_wp2
  go_ret
  exact ⟨rfl, rfl⟩
end Go.Proofs.YtjjkocklpcdbkaaGreat
