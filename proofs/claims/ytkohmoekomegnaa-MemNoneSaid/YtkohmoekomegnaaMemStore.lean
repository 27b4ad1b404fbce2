/- Store: a number is laid, or why none is. -/
import Derived.Test.YtkohmoekomegnaaMemLoad
import Derived.Laws.CopyOwn
import Derived.StillTailTactics
namespace Go.Proofs.Ytkohmoekomegnaa
open Go.RowKit
set_option linter.unusedVariables false

/-- bytes are laid over a row from place a on; only that row and new blocks have turned -/
def LaidPost (g a : Nat) (cur : List Value) (bs : List Int) (w : World) (e : Ending) (w' : World) : Prop :=
  e = .returned (.tuple #[]) ∧ w.grownBy w' (some g) ∧ w'.heap[g]? = some (.cells (cur.take a ++ (bs.map (Value.int .u8) ++ cur.drop (a + bs.length))).toArray 5 (0, 0))

theorem grown_of_row {w w1 : World} (hb : Below w.heap.size w w1) (g : Nat) (cs : Array Value) : w.grownBy (w1.setRow g cs) (some g) :=
  ⟨hb.os, hb.tape, hb.output, by rw [size_setRow]; exact hb.size, fun k hk hne => (setRow_other w1 g k cs (fun e => hne (by rw [e]))).trans (hb.block k hk)⟩

theorem store_in (g a n Vb Nb : Nat) (x : Int) (cur : List Value) (w : World) (hg : w.heap[g]? = some (.cells cur.toArray 5 (0, 0))) (hfit : a + n ≤ cur.length)
    (hV : w.cell? ⟨Vb, 0, none⟩ = some (.int .u64 x)) (hN : w.cell? ⟨Nb, 0, none⟩ = some (.int .i64 n)) (x0 : 0 ≤ x) (x1 : x < 18446744073709551616) (hn : n = 1 ∨ n = 2 ∨ n = 4 ∨ n = 8) :
    Calls Try.prog 33 #[.slice (some ⟨g, a, none⟩) n n, .pointer (some ⟨Vb, 0, none⟩), .pointer (some ⟨Nb, 0, none⟩)] w (LaidPost g a cur (wd.leB x n) w) := by
  have HG := bl.hid hg
  have HN := bl.hid hn
  have hgl := (Array.getElem?_eq_some_iff.1 hg).1
  clear hg hn
  go_enter Try.func33, Try.ntmps33
  go_wp2_with fail
  refine (put_lit x n _ x0 x1 HN.out).mono ?_
  rintro e w1 ⟨pa, pc, rfl, hown, hb⟩
  have hrd := Rd_own (wd.leB_bytes _ _) hown
  obtain ⟨b, off, hpa, -⟩ := hrd.2.2.resolve_left (by have := HN.out; omega)
  rw [hpa] at hrd
  rw [hpa]
  have HR := bl.hid hrd
  have HG1 : Hid (w1.heap[g]? = some (.cells cur.toArray 5 (0, 0))) := bl.hid ((hb.block g hgl).trans HG.out)
  clear hrd hown hpa
  go_wp2_with (refine wpList_copy_own rfl _ _ 22 22 rfl 5 Try.underlying22 (by kernel_rfl) g a n n ⟨b, off, none⟩ n pc rfl rfl cur.toArray 5 HG1.out ((wd.leB x n).map (Value.int .u8)) (by rw [List.length_map, wd.leB_length]; exact (Nat.min_self n).symm) HR.out.cells (by rw [List.length_map, wd.leB_length]; simpa using hfit) kt.u8_one ?_)
  go_end0
  refine ⟨rfl, grown_of_row hb g _, ?_⟩
  rw [setRow_heap w1 g cur.toArray _ _ _ HG1.out]
theorem access_store (p g L cap : Nat) (at' n Vb Nb : Nat) (x : Int) (cur : List Value) (w : World) (hc : w.cell? ⟨p, 0, none⟩ = some (.slice (some ⟨g, 0, none⟩) L cap)) (hL : L ≤ 65536) (hcap : L ≤ cap) (a0 : 16 ≤ at') (a1 : at' + n ≤ L)
    (hg : w.heap[g]? = some (.cells cur.toArray 5 (0, 0))) (hfit : L ≤ cur.length)
    (hV : w.cell? ⟨Vb, 0, none⟩ = some (.int .u64 x)) (hN : w.cell? ⟨Nb, 0, none⟩ = some (.int .i64 n)) (x0 : 0 ≤ x) (x1 : x < 18446744073709551616) (hn : n = 1 ∨ n = 2 ∨ n = 4 ∨ n = 8) :
    Calls Try.prog 27 #[.pointer (some ⟨p, 0, none⟩), .int .u64 at', .int .i64 n, .bool true, .func (.func 33) #[] #[.pointer (some ⟨Vb, 0, none⟩), .pointer (some ⟨Nb, 0, none⟩)]] w
      fun e w' => e = .returned (.int .i64 0) ∧ w.grownBy w' (some g) ∧ w'.heap[g]? = some (.cells (cur.take at' ++ ((wd.leB x n).map (Value.int .u8) ++ cur.drop (at' + n))).toArray 5 (0, 0)) := by
  have hmf : ∀ (fn : Fn) (first cap : Array Value) (w : World), (Instr.makeFunc fn first cap).run Try.prog w = .ok (.func fn first cap) w := fun _ _ _ _ => rfl
  have HG := bl.hid hg
  have HN := bl.hid hn
  have n0 : 0 < n := by omega
  clear hg hn
  go_enter Try.func27, Try.ntmps27
  go_wp2_with fail
  refine (none_no p g L cap _ hc).mono ?_
  rintro e w' ⟨rfl, rfl⟩
  go_wp2_with fail
  refine (cut_pos p g L cap at' n _ hc hL hcap a0 n0 a1).mono ?_
  rintro e w' ⟨rfl, rfl⟩
  go_wp2_with fail
  refine (store_in g at' n Vb Nb x cur _ HG.out (by omega) hV hN x0 x1 HN.out).mono ?_
  rintro e w1 ⟨rfl, hgr, hrow⟩
  rw [wd.leB_length] at hrow
  have HR := bl.hid hrow
  clear hrow
  go_wp2
  go_ret
  exact ⟨rfl, hgr, HR.out⟩
namespace pl
/-- what lies there behind a number that was stored -/
def st (l : List Int) (a n : Nat) (v : Int) : List Int := l.take a ++ (wd.leB v n ++ l.drop (a + n))
theorem st_length (l : List Int) (a n : Nat) (v : Int) (h : a + n ≤ l.length) : (st l a n v).length = l.length := by
  simp [st, wd.leB_length]
  omega
theorem st_bytes {l : List Int} (h : wd.isBytes l) (a n : Nat) (v : Int) : wd.isBytes (st l a n v) := by
  intro z hz
  rcases List.mem_append.1 hz with hz | hz
  · exact wd.isBytes_take h _ z hz
  · rcases List.mem_append.1 hz with hz | hz
    · exact wd.leB_bytes _ _ z hz
    · exact wd.isBytes_drop h _ z hz
end pl
theorem IsMem.stored {w w' : World} {p g : Nat} {l bs : List Int} (h : IsMem w p g l) (a : Nat) (hf : a + bs.length ≤ l.length) (hb : wd.isBytes bs) (hgr : w.grownBy w' (some g)) {rest : List Value} 
    (hr : w'.heap[g]? = some (.cells (((l.map (Value.int .u8)) ++ rest).take a ++ (bs.map (Value.int .u8) ++ ((l.map (Value.int .u8)) ++ rest).drop (a + bs.length))).toArray 5 (0, 0))) :
    IsMem w' p g (l.take a ++ (bs ++ l.drop (a + bs.length))) := by
  have hlen : (l.take a ++ (bs ++ l.drop (a + bs.length))).length = l.length := by simp; omega
  obtain ⟨cap, h2, h3⟩ := h.head
  refine ⟨h.apart, ⟨cap, by rw [hlen]; exact h2, ?_⟩, ⟨rest, ?_⟩, ?_, by rw [hlen]; exact h.size⟩
  · rw [hlen, hgr.block p h.lt.1 (by simpa using h.apart)]
    exact h3
  · rw [hr]
    congr 2
    rw [List.take_append_of_le_length (by simp; omega), List.drop_append_of_le_length (by simp; omega)]
    simp
  · intro z hz
    rcases List.mem_append.1 hz with hz | hz
    · exact wd.isBytes_take h.bytes _ z hz
    · rcases List.mem_append.1 hz with hz | hz
      · exact hb z hz
      · exact wd.isBytes_drop h.bytes _ z hz
theorem grown_trans {a b c : World} {r : Option Nat} (h : a.grownBy b r) (k : b.grownBy c r) : a.grownBy c r :=
  ⟨k.os.trans h.os, k.tape.trans h.tape, k.output.trans h.output, Nat.le_trans h.size k.size, fun i hi hne => (k.block i (Nat.lt_of_lt_of_le hi h.size) hne).trans (h.block i hi hne)⟩
theorem below_grown {a b : World} (h : Below a.heap.size a b) (r : Option Nat) : a.grownBy b r := ⟨h.os, h.tape, h.output, h.size, fun k hk _ => h.block k hk⟩
theorem alloc_grown (w : World) (o : Obj) (r : Option Nat) : w.grownBy (w.alloc o) r := World.grownBy_alloc w o r
theorem IsMem.drew {w : World} {p g : Nat} {l : List Int} (h : IsMem w p g l) : IsMem w.drew p g l := h.kept rfl rfl
theorem below_two (w : World) (o1 o2 : Obj) : Below w.heap.size w (((w.alloc o1).alloc o2).drew) :=
  (((Below.refl w.heap.size w).alloc (Nat.le_refl _) o1).alloc (by rw [World.size_alloc]; omega) o2).drew
theorem store_ok (p g at' n : Nat) (x : Int) (l : List Int) (w : World) (h : IsMem w p g l) (hn : n = 1 ∨ n = 2 ∨ n = 4 ∨ n = 8) (x0 : 0 ≤ x) (x1 : x < 18446744073709551616) (a0 : 16 ≤ at') (a1 : at' + n ≤ l.length) :
    Calls Try.prog 15 #[.pointer (some ⟨p, 0, none⟩), .int .u64 at', .int .i64 n, .int .u64 x] w fun e w' => e = .returned (.int .i64 0) ∧ w.grownBy w' (some g) ∧ IsMem w' p g (pl.st l at' n x) := by
  have hmf : ∀ (fn : Fn) (first cap : Array Value) (w : World), (Instr.makeFunc fn first cap).run Try.prog w = .ok (.func fn first cap) w := fun _ _ _ _ => rfl
  have h4 := ((h.keep (kt.below_row (.cells #[.int .i64 n] 3))).keep (kt.below_row (.cells #[.int .u64 x] 23))).drew
  have hgw : w.grownBy ((w.alloc (.cells #[.int .i64 n] 3)).alloc (.cells #[.int .u64 x] 23)).drew (some g) := below_grown (below_two w _ _) _
  obtain ⟨cap, hcap, hc⟩ := h4.cell
  obtain ⟨rest, hr⟩ := h4.row
  have HN := bl.hid hn
  have HR := bl.hid hr
  have H4 := bl.hid h4
  have HW := bl.hid hgw
  have hL := h.size
  clear hn h4 hr hgw h
  go_enter Try.func15, Try.ntmps15
  go_wp2_with fail
  refine wp_region_still_tail 6 (by kernel_rfl) (by kernel_rfl) ?_
  simp only [List.take_succ_cons, List.take_zero, List.drop_succ_cons, List.drop_zero]
  change wpStill _ _ (World.drew _) _ _ _
  repeat still_step
  still_call ((sized_yes n _ HN.out).mono fun e w' h => ⟨h.1, h.2.symm⟩)
  repeat still_step
  refine wpStill_nil ?_
  change wpList _ _ _ _ _ (World.drew _)
  go_wp2_with fail
  refine (access_store p g l.length cap at' n (w.heap.size + 1) w.heap.size x _ _ hc hL hcap a0 a1 HR.out (by simp) (by simp) (by simp) x0 x1 HN.out).mono ?_
  rintro e w1 ⟨rfl, hgr, hrow⟩
  have hm := IsMem.stored (bs := wd.leB x n) H4.out at' (by rw [wd.leB_length]; exact a1) (wd.leB_bytes _ _) hgr (by rw [wd.leB_length]; exact hrow)
  rw [wd.leB_length] at hm
  have HM := bl.hid hm
  have HG := bl.hid (grown_trans HW.out hgr)
  clear hm hgr hrow
  go_wp2
  go_ret
  exact ⟨rfl, HG.out, HM.out⟩
theorem store_out (p g : Nat) (at' x : Int) (n : Nat) (l : List Int) (w : World) (h : IsMem w p g l) (hn : n = 1 ∨ n = 2 ∨ n = 4 ∨ n = 8) (a0 : 0 ≤ at') (a1 : at' < 18446744073709551616) (hf : at' < 16 ∨ (l.length : Int) < at' + n) :
    Calls Try.prog 15 #[.pointer (some ⟨p, 0, none⟩), .int .u64 at', .int .i64 n, .int .u64 x] w fun e w' => e = .returned (.int .i64 15) ∧ Below w.heap.size w w' := by
  have hmf : ∀ (fn : Fn) (first cap : Array Value) (w : World), (Instr.makeFunc fn first cap).run Try.prog w = .ok (.func fn first cap) w := fun _ _ _ _ => rfl
  have h4 := ((h.keep (kt.below_row (.cells #[.int .i64 n] 3))).keep (kt.below_row (.cells #[.int .u64 x] 23))).drew
  obtain ⟨cap, hcap, hc⟩ := h4.cell
  have HN := bl.hid hn
  have HF := bl.hid hf
  have n9 : n < 9 := by omega
  have hL := h.size
  clear hn h4 h hf
  go_enter Try.func15, Try.ntmps15
  go_wp2_with fail
  refine wp_region_still_tail 6 (by kernel_rfl) (by kernel_rfl) ?_
  simp only [List.take_succ_cons, List.take_zero, List.drop_succ_cons, List.drop_zero]
  change wpStill _ _ (World.drew _) _ _ _
  repeat still_step
  still_call ((sized_yes n _ HN.out).mono fun e w' h => ⟨h.1, h.2.symm⟩)
  repeat still_step
  refine wpStill_nil ?_
  change wpList _ _ _ _ _ (World.drew _)
  go_wp2_with fail
  refine (access_out p g l.length cap at' n _ _ hc hL a0 a1 (by omega) (by omega) HF.out).mono ?_
  rintro e w' ⟨rfl, rfl⟩
  go_wp2
  go_ret
  exact ⟨rfl, below_two w _ _⟩
theorem store_odd (p g : Nat) (at' x n : Int) (l : List Int) (w : World) (h : IsMem w p g l) (hn : ¬ (n = 1 ∨ n = 2 ∨ n = 4 ∨ n = 8)) :
    Calls Try.prog 15 #[.pointer (some ⟨p, 0, none⟩), .int .u64 at', .int .i64 n, .int .u64 x] w fun e w' => e = .returned (.int .i64 2) ∧ Below w.heap.size w w' := by
  have hmf : ∀ (fn : Fn) (first cap : Array Value) (w : World), (Instr.makeFunc fn first cap).run Try.prog w = .ok (.func fn first cap) w := fun _ _ _ _ => rfl
  have h4 := ((h.keep (kt.below_row (.cells #[.int .i64 n] 3))).keep (kt.below_row (.cells #[.int .u64 x] 23))).drew
  obtain ⟨cap, hcap, hc⟩ := h4.cell
  have HN := bl.hid hn
  clear hn h4 h
  go_enter Try.func15, Try.ntmps15
  go_wp2_with fail
  refine wp_region_still_tail 6 (by kernel_rfl) (by kernel_rfl) ?_
  simp only [List.take_succ_cons, List.take_zero, List.drop_succ_cons, List.drop_zero]
  change wpStill _ _ (World.drew _) _ _ _
  repeat still_step
  still_call ((sized_no n _ HN.out).mono fun e w' h => ⟨h.1, h.2.symm⟩)
  repeat still_step
  refine wpStill_nil ?_
  change wpList _ _ _ _ _ (World.drew _)
  go_wp2_with fail
  refine (access_not p g l.length cap at' n _ _ hc).mono ?_
  rintro e w' ⟨rfl, rfl⟩
  go_wp2
  go_ret
  exact ⟨rfl, below_two w _ _⟩
end Go.Proofs.Ytkohmoekomegnaa
