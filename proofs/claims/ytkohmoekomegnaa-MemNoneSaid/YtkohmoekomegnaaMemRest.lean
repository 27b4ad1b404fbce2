/- Store for every place and size; Bytes; Lay: each by a contract. -/
import Derived.Test.YtkohmoekomegnaaMemStore
namespace Go.Proofs.Ytkohmoekomegnaa
open Go.RowKit
set_option linter.unusedVariables false

namespace pl
/-- what lies there behind bytes that were laid -/
def lay (l : List Int) (a : Nat) (bs : List Int) : List Int := l.take a ++ (bs ++ l.drop (a + bs.length))
def layL (l : List Int) (a : Int) (bs : List Int) : List Int := if fit l a bs.length then lay l a.toNat bs else l
def layE (l : List Int) (a n : Int) : Int := if fit l a n then 0 else 15
def stL (l : List Int) (a n v : Int) : List Int := if sizB n && fit l a n then lay l a.toNat (wd.leB v n.toNat) else l
def byL (l : List Int) (a n : Int) : List Int := if fit l a n then (l.drop a.toNat).take n.toNat else []
def byE (l : List Int) (a n : Int) : Int := if 0 ≤ n then (if fit l a n then 0 else 15) else 2
theorem st_lay (l : List Int) (a n : Nat) (v : Int) : st l a n v = lay l a (wd.leB v n) := by unfold st lay; rw [wd.leB_length]
theorem byL_bytes {l : List Int} (h : wd.isBytes l) (a n : Int) : wd.isBytes (byL l a n) := by
  unfold byL
  split
  · exact wd.isBytes_take (wd.isBytes_drop h _) _
  · intro z hz
    cases hz
theorem lay_length (l : List Int) (a : Nat) (bs : List Int) (h : a + bs.length ≤ l.length) : (lay l a bs).length = l.length := by
  simp [lay]
  omega
theorem layL_length (l : List Int) (a : Int) (bs : List Int) : (layL l a bs).length = l.length := by
  unfold layL
  split
  · rename_i h
    have h2 := of_decide_eq_true h
    exact lay_length l a.toNat bs (by omega)
  · rfl
theorem stL_length (l : List Int) (a n v : Int) : (stL l a n v).length = l.length := by
  unfold stL
  split
  · rename_i h
    have h2 := of_decide_eq_true (Bool.and_eq_true _ _ ▸ h).2
    exact lay_length l a.toNat _ (by rw [wd.leB_length]; omega)
  · rfl
end pl
def StorePost (p g : Nat) (l : List Int) (a n v : Int) (w : World) (e : Ending) (w' : World) : Prop := e = .returned (.int .i64 (pl.ldE l a n)) ∧ w.grownBy w' (some g) ∧ IsMem w' p g (pl.stL l a n v)
/-- Store, for every place and size -/
theorem store_any (p g : Nat) (at' n x : Int) (l : List Int) (w : World) (h : IsMem w p g l) (a0 : 0 ≤ at') (a1 : at' < 18446744073709551616) (x0 : 0 ≤ x) (x1 : x < 18446744073709551616) :
    Calls Try.prog 15 #[.pointer (some ⟨p, 0, none⟩), .int .u64 at', .int .i64 n, .int .u64 x] w (StorePost p g l at' n x w) := by
  by_cases hn : n = 1 ∨ n = 2 ∨ n = 4 ∨ n = 8
  · have hs : pl.sizB n = true := decide_eq_true hn
    obtain ⟨k, rfl⟩ : ∃ k : Nat, n = k := ⟨n.toNat, by omega⟩
    by_cases hf : 16 ≤ at' ∧ 0 ≤ (k : Int) ∧ at' + k ≤ l.length
    · have hff : pl.fit l at' k = true := decide_eq_true hf
      obtain ⟨b, rfl⟩ : ∃ b : Nat, at' = b := ⟨at'.toNat, by omega⟩
      unfold StorePost
      rw [show pl.stL l b k x = pl.st l b k x by rw [pl.st_lay]; simp [pl.stL, hs, hff], show pl.ldE l b k = 0 by simp [pl.ldE, hs, hff]]
      exact store_ok p g b k x l w h (by omega) x0 x1 (by omega) (by omega)
    · have hff : pl.fit l at' k = false := decide_eq_false hf
      unfold StorePost
      rw [show pl.stL l at' k x = l by simp [pl.stL, hff], show pl.ldE l at' k = 15 by simp [pl.ldE, hs, hff]]
      exact (store_out p g at' x k l w h (by omega) a0 a1 (by omega)).mono fun e w' q => ⟨q.1, below_grown q.2 _, h.keep q.2⟩
  · have hs : pl.sizB n = false := decide_eq_false hn
    unfold StorePost
    rw [show pl.stL l at' n x = l by simp [pl.stL, hs], show pl.ldE l at' n = 2 by simp [pl.ldE, hs]]
    exact (store_odd p g at' x n l w h hn).mono fun e w' q => ⟨q.1, below_grown q.2 _, h.keep q.2⟩

/-! ### bytes.Clone; Bytes -/
set_option maxHeartbeats 400000 in
theorem clone_any (ad : Addr) (n c : Nat) (l : List Int) (w : World) (h : kt.Rd w (some ad) n l) (hn : n ≤ 140737488355328) :
    Calls Try.prog 30 #[.slice (some ad) n c] w (RowPost n l w) := by
  have q1 : ∀ (w : World) (a : Option Addr) (n c n' c' : Nat), (binOp .eql 22 (.slice a n c) (.slice none n' c')).run Try.prog w = .ok (.bool a.isNone) w := fun w a n c n' c' => Lib.run_eql_slice_nil w _ _ a n c n' c' Try.underlying22
  obtain ⟨i0, hi, hz0, hz1, hz2⟩ := info_parts u8_info
  have hemp := kt.Own.empty kt.IsU8 w 5 1
  have hn' := bl.hid hn
  have hl := bl.hid h.1
  have hb := bl.hid h.2.1
  by_cases h0 : n = 0
  · subst h0
    have e0 : l = [] := List.eq_nil_of_length_eq_zero h.1
    subst e0
    clear h hn
    go_enter Try.func30, Try.ntmps30
    go_wp2_with (at_builtin; refine kt.wpList_append_Own kt.IsU8 rfl _ _ 22 rfl w.heap.size 5 i0 (.int .u8 0) 1 1 Try.underlying22 hi hz0 hz1 hz2 rfl zero_u8 _ 0 [] rfl hemp ad 0 _ [] rfl rfl (by simp) (by simp) (by simp) (by unfold maxLen; omega) (by omega) (by simp) ?_)
    intro v' w1 hown' hgrow
    have hB1 := hemp.below_grown (kt.below_row _) (by simp) hgrow
    go_wp2
    go_ret
    obtain ⟨a', c', hv⟩ := hown'.shape
    exact ⟨a', c', bl.ret1 hv, by rw [← hv]; exact hown', hB1⟩
  · obtain ⟨b, off, ea, hc⟩ := h.2.2.resolve_left h0
    obtain rfl : ad = ⟨b, off, none⟩ := by simpa using ea
    have hR : kt.Rd (w.alloc (.cells #[] 5)) (some ⟨b, off, none⟩) n l := h.keep (kt.below_row _)
    have hR' := bl.hid hR
    clear h hn hc hR ea
    go_enter Try.func30, Try.ntmps30
    go_wp2_with (at_builtin; refine kt.wpList_append_Own kt.IsU8 rfl _ _ 22 rfl w.heap.size 5 i0 (.int .u8 0) 1 1 Try.underlying22 hi hz0 hz1 hz2 rfl zero_u8 _ 0 [] rfl hemp ⟨b, off, none⟩ n _ (l.map (Value.int .u8)) rfl (by have := hl.out; simp; omega) hR'.out.cells kt.u8_one (kt.u8_all hb.out) (by have := hn'.out; unfold maxLen; omega) (by have := hn'.out; omega) (by simp) ?_)
    intro v' w1 hown' hgrow
    have hB1 := hemp.below_grown (kt.below_row _) (by simp) hgrow
    try simp only [Nat.zero_add, List.nil_append] at hown'
    go_wp2
    go_ret
    obtain ⟨a', c', hv⟩ := hown'.shape
    exact ⟨a', c', bl.ret1 hv, by rw [← hv]; exact hown', hB1⟩
/-- the closure inside Bytes: a copy is made and its slice is stored into block A -/
def ClonedPost (E : Ending) (A n : Nat) (l : List Int) (w : World) (e : Ending) (w' : World) : Prop :=
  ∃ a c w1, e = E ∧ kt.Own kt.IsU8 w1 w.heap.size 5 1 (.slice a n c) n (l.map (Value.int .u8)) ∧ Below w.heap.size w w1 ∧ w1.setCell ⟨A, 0, none⟩ (.slice a n c) = w'
theorem bytes_in (ad : Addr) (n c A : Nat) (l : List Int) (v : Value) (w : World) (h : kt.Rd w (some ad) n l) (hn : n ≤ 140737488355328) (hA : w.cell? ⟨A, 0, none⟩ = some v) (hf : w.frozen? ⟨A, 0, none⟩ = false) (hAl : A < w.heap.size) :
    Calls Try.prog 35 #[.slice (some ad) n c, .pointer (some ⟨A, 0, none⟩)] w (ClonedPost (.returned (.tuple #[])) A n l w) := by
  have H := bl.hid h
  clear h
  go_enter Try.func35, Try.ntmps35
  go_wp2_with fail
  refine (clone_any ad n c l _ H.out hn).mono ?_
  rintro e w1 ⟨a1, c1, rfl, hown, hb1⟩
  have hA1 := (hb1.cell (p := ⟨A, 0, none⟩) hAl).trans hA
  have hf1 := (hb1.frozen (p := ⟨A, 0, none⟩) hAl).trans hf
  have HO := bl.hid hown
  clear hown hA hf
  go_wp2
  go_end0
  exact ⟨a1, c1, w1, rfl, HO.out, hb1, rfl⟩
theorem access_bytes (p g L cap : Nat) (at' n : Nat) (A : Nat) (v : Value) (l : List Int) (w : World) (hc : w.cell? ⟨p, 0, none⟩ = some (.slice (some ⟨g, 0, none⟩) L cap)) (hL : L ≤ 65536) (hcap : L ≤ cap) (a0 : 16 ≤ at') (n0 : 0 < n) (a1 : at' + n ≤ L)
    (h : kt.Rd w (some ⟨g, at', none⟩) n l) (hA : w.cell? ⟨A, 0, none⟩ = some v) (hf : w.frozen? ⟨A, 0, none⟩ = false) (hAl : A < w.heap.size) :
    Calls Try.prog 27 #[.pointer (some ⟨p, 0, none⟩), .int .u64 at', .int .i64 n, .bool true, .func (.func 35) #[] #[.pointer (some ⟨A, 0, none⟩)]] w (ClonedPost (.returned (.int .i64 0)) A n l w) := by
  have hmf : ∀ (fn : Fn) (first cap : Array Value) (w : World), (Instr.makeFunc fn first cap).run Try.prog w = .ok (.func fn first cap) w := fun _ _ _ _ => rfl
  have H := bl.hid h
  clear h
  go_enter Try.func27, Try.ntmps27
  go_wp2_with fail
  refine (none_no p g L cap _ hc).mono ?_
  rintro e w' ⟨rfl, rfl⟩
  go_wp2_with fail
  refine (cut_pos p g L cap at' n _ hc hL hcap a0 n0 a1).mono ?_
  rintro e w' ⟨rfl, rfl⟩
  go_wp2_with fail
  refine (bytes_in _ n n A l v _ H.out (by omega) hA hf hAl).mono ?_
  rintro e w' ⟨a1, c1, w1, rfl, hown, hb1, rfl⟩
  have HO := bl.hid hown
  clear hown
  go_wp2
  go_ret
  exact ⟨a1, c1, w1, rfl, HO.out, hb1, rfl⟩
theorem access_bytes0 (p g L cap : Nat) (at' : Nat) (A : Nat) (v : Value) (w : World) (hc : w.cell? ⟨p, 0, none⟩ = some (.slice (some ⟨g, 0, none⟩) L cap)) (hL : L ≤ 65536) (hcap : L ≤ cap) (a0 : 16 ≤ at') (a1 : at' ≤ L)
    (hA : w.cell? ⟨A, 0, none⟩ = some v) (hf : w.frozen? ⟨A, 0, none⟩ = false) (hAl : A < w.heap.size) :
    Calls Try.prog 27 #[.pointer (some ⟨p, 0, none⟩), .int .u64 at', .int .i64 0, .bool true, .func (.func 35) #[] #[.pointer (some ⟨A, 0, none⟩)]] w (ClonedPost (.returned (.int .i64 0)) A 0 [] w) := by
  have hmf : ∀ (fn : Fn) (first cap : Array Value) (w : World), (Instr.makeFunc fn first cap).run Try.prog w = .ok (.func fn first cap) w := fun _ _ _ _ => rfl
  go_enter Try.func27, Try.ntmps27
  go_wp2_with fail
  refine (none_no p g L cap _ hc).mono ?_
  rintro e w' ⟨rfl, rfl⟩
  go_wp2_with fail
  refine (cut_zero p g L cap at' _ hc hL hcap a0 a1).mono ?_
  rintro e w' ⟨rfl, rfl⟩
  go_wp2_with fail
  refine (bytes_in _ 0 0 A [] v _ (kt.Rd.nil _ _) (by omega) hA hf hAl).mono ?_
  rintro e w' ⟨a1, c1, w1, rfl, hown, hb1, rfl⟩
  have HO := bl.hid hown
  clear hown
  go_wp2
  go_ret
  exact ⟨a1, c1, w1, rfl, HO.out, hb1, rfl⟩
/-- bytes are told in new memory -/
def TellPost (l : List Int) (E : Int) (w : World) (e : Ending) (w' : World) : Prop :=
  ∃ a c, e = .returned (.tuple #[.slice a l.length c, .int .i64 E]) ∧ kt.Own kt.IsU8 w' w.heap.size 5 1 (.slice a l.length c) l.length (l.map (Value.int .u8)) ∧ Below w.heap.size w w'
theorem cloned_tell {n : Nat} {l : List Int} {w w1 : World} {o : Obj} {a : Option Addr} {c : Nat} (hown : kt.Own kt.IsU8 w1 (w.alloc o).heap.size 5 1 (.slice a n c) n (l.map (Value.int .u8))) (hb : Below (w.alloc o).heap.size (w.alloc o) w1) :
    kt.Own kt.IsU8 (w1.setCell ⟨w.heap.size, 0, none⟩ (.slice a n c)) w.heap.size 5 1 (.slice a n c) n (l.map (Value.int .u8)) ∧ Below w.heap.size w (w1.setCell ⟨w.heap.size, 0, none⟩ (.slice a n c)) := by
  have hs : (w.alloc o).heap.size = w.heap.size + 1 := World.size_alloc w o
  constructor
  · refine (hown.kept fun g hg => ?_).mono (by omega)
    exact Below.heap_setCell w1 ⟨w.heap.size, 0, none⟩ _ g (by have := (hown.lt g hg).1; show g ≠ w.heap.size; omega)
  · exact (((Below.refl w.heap.size w).alloc (Nat.le_refl _) o).trans (hb.mono (by omega))).setCell (by simp) _
theorem bytes_ok (p g at' n : Nat) (l : List Int) (w : World) (h : IsMem w p g l) (a0 : 16 ≤ at') (a1 : at' + n ≤ l.length) :
    Calls Try.prog 17 #[.pointer (some ⟨p, 0, none⟩), .int .u64 at', .int .i64 n] w (TellPost ((l.drop at').take n) 0 w) := by
  have hmf : ∀ (fn : Fn) (first cap : Array Value) (w : World), (Instr.makeFunc fn first cap).run Try.prog w = .ok (.func fn first cap) w := fun _ _ _ _ => rfl
  have h2 := h.keep (kt.below_row (.cells #[.slice none 0 0] 22))
  obtain ⟨cap, hcap, hc⟩ := h2.cell
  have HR := bl.hid (h2.rd at' n a1)
  have hL := h.size
  have hlen := bl.hid (show ((l.drop at').take n).length = n by rw [List.length_take, List.length_drop]; omega)
  have hd : decide ((n : Int) ≥ 0) = true := decide_eq_true (by omega)
  clear h h2
  by_cases h0 : n = 0
  · subst h0
    go_enter Try.func17, Try.ntmps17
    go_wp2_with fail
    refine (access_bytes0 p g l.length cap at' w.heap.size (.slice none 0 0) _ hc hL hcap a0 (by omega) (by simp) (by simp) (by simp)).mono ?_
    rintro e w' ⟨b1, c1, w1, rfl, hown, hb1, rfl⟩
    have hT := bl.hid (cloned_tell hown hb1)
    have hA1 : (w1.setCell ⟨w.heap.size, 0, none⟩ (.slice b1 0 c1)).cell? ⟨w.heap.size, 0, none⟩ = some (.slice b1 0 c1) := World.cell?_setCell_same _ _ _ (u := .slice none 0 0) ((hb1.cell (p := ⟨w.heap.size, 0, none⟩) (by simp)).trans (by simp))
    generalize w1.setCell ⟨w.heap.size, 0, none⟩ (.slice b1 0 c1) = w2 at *
    clear hown hb1
    go_wp2
    go_ret2
    exact ⟨b1, c1, rfl, hT.out⟩
  · have n0 : 0 < n := by omega
    clear h0
    go_enter Try.func17, Try.ntmps17
    go_wp2_with fail
    refine (access_bytes p g l.length cap at' n w.heap.size (.slice none 0 0) ((l.drop at').take n) _ hc hL hcap a0 n0 a1 HR.out (by simp) (by simp) (by simp)).mono ?_
    rintro e w' ⟨b1, c1, w1, rfl, hown, hb1, rfl⟩
    have hT := bl.hid (cloned_tell hown hb1)
    have hA1 : (w1.setCell ⟨w.heap.size, 0, none⟩ (.slice b1 n c1)).cell? ⟨w.heap.size, 0, none⟩ = some (.slice b1 n c1) := World.cell?_setCell_same _ _ _ (u := .slice none 0 0) ((hb1.cell (p := ⟨w.heap.size, 0, none⟩) (by simp)).trans (by simp))
    generalize w1.setCell ⟨w.heap.size, 0, none⟩ (.slice b1 n c1) = w2 at *
    clear hown hb1
    go_wp2
    go_ret2
    exact ⟨b1, c1, bl.ret2 (by show Value.slice b1 n c1 = _; rw [hlen.out]) rfl, by rw [hlen.out]; exact hT.out.1, hT.out.2⟩
end Go.Proofs.Ytkohmoekomegnaa
