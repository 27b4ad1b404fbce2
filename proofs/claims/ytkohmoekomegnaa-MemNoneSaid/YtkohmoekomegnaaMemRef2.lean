/- The reference's memory: Store, Bytes, Lay: each by a contract. -/
import Derived.Test.YtkohmoekomegnaaMemRef
import Derived.RegionTactic
import Derived.BigRegion
namespace Go.Proofs.Ytkohmoekomegnaa
open Go.RowKit
set_option linter.unusedVariables false

namespace pl
theorem lay_nil (l : List Int) (a : Nat) : lay l a [] = l := by simp [lay]
theorem lay_snoc (l : List Int) (a : Nat) (bs : List Int) (z : Int) (h : a + bs.length < l.length) : (lay l a bs).set (a + bs.length) z = lay l a (bs ++ [z]) := by
  unfold lay
  rw [List.set_append_right _ _ (by simp; omega), List.length_take, Nat.min_eq_left (by omega), Nat.add_sub_cancel_left, List.set_append_right _ _ (Nat.le_refl _), Nat.sub_self, List.drop_eq_getElem_cons h]
  simp [Nat.add_assoc]
end pl
theorem cell_of_same {w w' : World} {b o : Nat} (h : w'.heap[b]? = w.heap[b]?) : w'.cell? ⟨b, o, none⟩ = w.cell? ⟨b, o, none⟩ := by
  unfold World.cell?
  rw [h]
theorem Rd_only {w w' : World} {g n : Nat} {a : Option Addr} {l : List Int} (h : kt.Rd w a n l) (ho : kt.Only g w w') (hg : ∀ ad, a = some ad → ad.block ≠ g) : kt.Rd w' a n l := by
  refine ⟨h.1, h.2.1, ?_⟩
  rcases h.2.2 with h0 | ⟨b, off, rfl, hc⟩
  · exact .inl h0
  · exact .inr ⟨b, off, rfl, fun i hi => (cell_of_same (ho.block b (hg _ rfl))).trans (hc i hi)⟩
theorem IsRef.set {w : World} {p g : Nat} {l : List Int} (h : IsRef w p g l) (i : Nat) (hi : i < l.length) (z : Int) (z0 : 0 ≤ z) (z1 : z < 256) : IsRef (w.setCell ⟨g, i, none⟩ (.int .u8 z)) p g (l.set i z) := by
  obtain ⟨h1, ⟨cap, h2, h3⟩, ⟨rest, h4⟩, h5, h6⟩ := h
  refine ⟨h1, ⟨cap, by simpa using h2, ?_⟩, ⟨rest, ?_⟩, ?_, by simpa using h6⟩
  · rw [Below.heap_setCell w ⟨g, i, none⟩ _ p h1, h3]
    simp
  · rw [heap_setCell_same w g i _ _ _ h4]
    congr 2
    rw [List.map_set]
    have hi' : i < (l.map (Value.int .u8)).length := by simpa using hi
    apply Array.toList_inj.1
    simp [List.set_append_left _ _ hi']
  · intro y hy
    rcases List.mem_or_eq_of_mem_set hy with hy | rfl
    · exact h5 y hy
    · exact ⟨z0, z1⟩
theorem IsRef.at {w : World} {p g : Nat} {l : List Int} (h : IsRef w p g l) (i : Nat) (hi : i < l.length) : w.cell? ⟨g, i, none⟩ = some (.int .u8 (l.getD i 0)) ∧ w.frozen? ⟨g, i, none⟩ = false := by
  obtain ⟨rest, hr⟩ := h.row
  refine ⟨?_, frozen_of_row w g i _ _ hr⟩
  rw [cell_of_row w g i _ _ _ hr]
  simp [List.getElem?_append, hi, List.getD]
/-- the reference's memory while bytes are laid -/
def LayInv (p g : Nat) (l : List Int) (a : Nat) (bs : List Int) (w wr : World) : Prop := kt.Only g w wr ∧ IsRef wr p g (pl.lay l a bs)
theorem LayInv.start {w : World} {p g : Nat} {l : List Int} (h : IsRef w p g l) (a : Nat) : LayInv p g l a [] w w := ⟨kt.Only.refl _ _, by rw [pl.lay_nil]; exact h⟩
theorem LayInv.step {w wr : World} {p g a : Nat} {l bs : List Int} (h : LayInv p g l a bs w wr) (hf : a + bs.length < l.length) :
    (∃ cap, wr.cell? ⟨p, 0, none⟩ = some (.slice (some ⟨g, 0, none⟩) l.length cap)) ∧ (∃ y, wr.cell? ⟨g, a + bs.length, none⟩ = some (.int .u8 y)) ∧ wr.frozen? ⟨g, a + bs.length, none⟩ = false ∧
    ∀ z : Int, 0 ≤ z → z < 256 → LayInv p g l a (bs ++ [z]) w (wr.setCell ⟨g, a + bs.length, none⟩ (.int .u8 z)) := by
  obtain ⟨ho, hr⟩ := h
  have hl := pl.lay_length l a bs (by omega)
  obtain ⟨cap, hcap, hc⟩ := hr.cell
  have hat := hr.at (a + bs.length) (by omega)
  refine ⟨⟨cap, by rw [hl] at hc; exact hc⟩, ⟨_, hat.1⟩, hat.2, fun z z0 z1 => ⟨ho.trans (kt.Only.setCell g _ wr _), ?_⟩⟩
  rw [← pl.lay_snoc l a bs z hf]
  exact hr.set _ (by omega) z z0 z1
theorem IsRef.drew {w : World} {p g : Nat} {l : List Int} (h : IsRef w p g l) : IsRef w.drew p g l := h.kept rfl rfl
theorem LayInv.drew {w wr : World} {p g a : Nat} {l bs : List Int} (h : LayInv p g l a bs w wr) : LayInv p g l a bs w wr.drew := ⟨⟨h.1.os, h.1.tape, h.1.output, h.1.size, h.1.block⟩, h.2.drew⟩

def RStorePost (p g : Nat) (l : List Int) (a n v : Int) (w : World) (e : Ending) (w' : World) : Prop := e = .returned (.int .i64 (pl.ldE l a n)) ∧ kt.Only g w w' ∧ IsRef w' p g (pl.stL l a n v)
def RLayPost (p g : Nat) (l : List Int) (a : Int) (bs : List Int) (w : World) (e : Ending) (w' : World) : Prop := e = .returned (.int .i64 (pl.layE l a bs.length)) ∧ kt.Only g w w' ∧ IsRef w' p g (pl.layL l a bs)
theorem dv_byte (x : Int) (k : Nat) : wd.leB x (k + 1) = wd.leB x k ++ [wd.dv x k % 256] := wd.leB_snoc k x
set_option maxHeartbeats 800000 in
theorem rstore_ok (p g at' n : Nat) (x : Int) (l : List Int) (w : World) (h : IsRef w p g l) (hn : n = 1 ∨ n = 2 ∨ n = 4 ∨ n = 8) (x0 : 0 ≤ x) (x1 : x < 18446744073709551616) (a0 : 16 ≤ at') (a1 : at' + n ≤ l.length) :
    Calls Try.prog 37 #[.pointer (some ⟨p, 0, none⟩), .int .u64 at', .int .i64 n, .int .u64 x] w fun e w' => e = .returned (.int .i64 0) ∧ LayInv p g l at' (wd.leB x n) w w' := by
  obtain ⟨cap, hcap, hc⟩ := h.cell
  have hL := h.size
  have hn8 : n ≤ 8 := by omega
  have n0 : 0 < n := by omega
  have HS : Hid (pl.sizB n = true) := bl.hid (decide_eq_true (by omega))
  have HF : Hid (pl.fit l at' n = true) := bl.hid (decide_eq_true (by omega))
  have H0 := LayInv.start h at'
  clear h hn
  go_enter Try.func37, Try.ntmps37
  go_wp2_with fail
  refine (rsized_any n _).mono ?_
  rw [HS.out]
  rintro e w' ⟨rfl, rfl⟩
  go_wp2_with fail
  refine (rfits_any p g 0 cap l at' n _ hc hL (by omega) (by omega) (by omega)).mono ?_
  rw [HF.out]
  rintro e w' ⟨rfl, rfl⟩
  go_wp2
  go_loopw [3, 9] (fun v i wr => ∃ k : Nat, k ≤ n ∧ i = .int .i64 k ∧ v = .int .u64 (wd.dv x k) ∧ LayInv p g l at' (wd.leB x k) w wr) (fun _ i _ => n - (intOf i).toNat)
  case atStart => exact ⟨0, by omega, rfl, bl.int_eq (by simp [wd.dv]), H0⟩
  case round =>
    obtain ⟨k, hk, rfl, rfl, hinv⟩ := hrel
    clear hc H0
    by_cases hlt : k < n
    · have hd : decide ((k : Int) < (n : Int)) = true := decide_eq_true (by omega)
      obtain ⟨⟨cap2, hc2⟩, ⟨y, hy⟩, hfr, hst⟩ := hinv.step (by rw [wd.leB_length]; omega)
      rw [wd.leB_length] at hy hfr hst
      have hb := wd.dv_bd x k x0 x1
      have HST := bl.hid hst
      obtain ⟨X, hX⟩ : ∃ X, wd.dv x k = X := ⟨_, rfl⟩
      have HN : Hid (wd.dv x (k + 1) = X / 256) := bl.hid (by rw [← hX]; exact wd.dv_succ x k)
      have HB : Hid (wd.leB x (k + 1) = wd.leB x k ++ [X % 256]) := bl.hid (by rw [← hX]; exact dv_byte x k)
      rw [hX] at hb
      have X0 : 0 ≤ X := hb.1
      have X1 : X < 18446744073709551616 := hb.2
      have hw8 : IntKind.u8.wrap (X % 256) = X % 256 := by rw [IntKind.wrap_u8']; omega
      have hk1 : k ≤ n - 1 := by omega
      rw [hX]
      clear hX hst hinv hb hlt hk
      go_wp2
      go_roundw
      case rel => first | exact ⟨k + 1, by omega, by go_num, bl.int_eq (by rw [HN.out]), by rw [HB.out]; exact HST.out _ (by omega) (by omega)⟩ | ((repeat apply Exists.intro); refine ⟨⟨k + 1, by omega, by go_num, bl.int_eq (by rw [HN.out]), by rw [HB.out]; exact HST.out _ (by omega) (by omega)⟩, ?_⟩; and_intros <;> rfl)
      case measure => simp [intOf]; omega
    · obtain rfl : k = n := by omega
      have HI := bl.hid hinv
      clear hinv hlt
      go_wp2
      go_ret
      exact ⟨rfl, HI.out⟩
theorem rstore_any (p g : Nat) (at' n x : Int) (l : List Int) (w : World) (h : IsRef w p g l) (a0 : 0 ≤ at') (a1 : at' < 18446744073709551616) (x0 : 0 ≤ x) (x1 : x < 18446744073709551616) :
    Calls Try.prog 37 #[.pointer (some ⟨p, 0, none⟩), .int .u64 at', .int .i64 n, .int .u64 x] w (RStorePost p g l at' n x w) := by
  by_cases hn : n = 1 ∨ n = 2 ∨ n = 4 ∨ n = 8
  · have hs : pl.sizB n = true := decide_eq_true hn
    obtain ⟨k, rfl⟩ : ∃ k : Nat, n = k := ⟨n.toNat, by omega⟩
    by_cases hf : 16 ≤ at' ∧ 0 ≤ (k : Int) ∧ at' + k ≤ l.length
    · have hff : pl.fit l at' k = true := decide_eq_true hf
      obtain ⟨b, rfl⟩ : ∃ b : Nat, at' = b := ⟨at'.toNat, by omega⟩
      unfold RStorePost
      rw [show pl.stL l b k x = pl.lay l b (wd.leB x k) by simp [pl.stL, hs, hff], show pl.ldE l b k = 0 by simp [pl.ldE, hs, hff]]
      exact rstore_ok p g b k x l w h (by omega) x0 x1 (by omega) (by omega)
    · have hff : pl.fit l at' k = false := decide_eq_false hf
      unfold RStorePost
      rw [show pl.stL l at' k x = l by simp [pl.stL, hff], show pl.ldE l at' k = 15 by simp [pl.ldE, hs, hff]]
      obtain ⟨cap, hcap, hc⟩ := h.cell
      have hL := h.size
      have HS := bl.hid hs
      have HF := bl.hid hff
      have H := bl.hid h
      have hk8 : k ≤ 8 := by omega
      clear h hs hff hf hn
      go_enter Try.func37, Try.ntmps37
      go_wp2_with fail
      refine (rsized_any k _).mono ?_
      rw [HS.out]
      rintro e w' ⟨rfl, rfl⟩
      go_wp2_with fail
      refine (rfits_any p g 0 cap l at' k _ hc hL a0 a1 (by omega)).mono ?_
      rw [HF.out]
      rintro e w' ⟨rfl, rfl⟩
      go_wp2
      go_ret
      exact ⟨rfl, kt.Only.refl _ _, H.out⟩
  · have hs : pl.sizB n = false := decide_eq_false hn
    unfold RStorePost
    rw [show pl.stL l at' n x = l by simp [pl.stL, hs], show pl.ldE l at' n = 2 by simp [pl.ldE, hs]]
    have HS := bl.hid hs
    have H := bl.hid h
    clear hs hn h
    go_enter Try.func37, Try.ntmps37
    go_wp2_with fail
    refine (rsized_any n _).mono ?_
    rw [HS.out]
    rintro e w' ⟨rfl, rfl⟩
    go_wp2
    go_ret
    exact ⟨rfl, kt.Only.refl _ _, H.out⟩
set_option maxHeartbeats 800000 in
theorem rlay_ok (p g at' n sc : Nat) (sa : Option Addr) (bs : List Int) (l : List Int) (w : World) (h : IsRef w p g l) (hr : kt.Rd w sa n bs) (hsg : ∀ ad, sa = some ad → ad.block ≠ g) (a0 : 16 ≤ at') (a1 : at' + n ≤ l.length) :
    Calls Try.prog 41 #[.pointer (some ⟨p, 0, none⟩), .int .u64 at', .slice sa n sc] w fun e w' => e = .returned (.int .i64 0) ∧ LayInv p g l at' bs w w' := by
  obtain ⟨cap, hcap, hc⟩ := h.cell
  have hL := h.size
  have HF : Hid (pl.fit l at' n = true) := bl.hid (decide_eq_true (by omega))
  have H0 := LayInv.start h at'
  have HR : Hid (∀ wr, kt.Only g w wr → kt.Rd wr sa n bs) := bl.hid fun wr ho => Rd_only hr ho hsg
  have HL := bl.hid hr.1
  have HB := bl.hid hr.2.1
  clear h hr hsg
  go_enter Try.func41, Try.ntmps41
  go_wp2_with fail
  refine (rfits_any p g 0 cap l at' n _ hc hL (by omega) (by omega) (by omega)).mono ?_
  rw [HF.out]
  rintro e w' ⟨rfl, rfl⟩
  go_wp2
  go_loopw [7] (fun i wr => ∃ k : Nat, k ≤ n ∧ i = .int .i64 k ∧ LayInv p g l at' (bs.take k) w wr) (fun i _ => n - (intOf i).toNat)
  case atStart => exact ⟨0, by omega, rfl, H0⟩
  case round =>
    obtain ⟨k, hk, rfl, hinv⟩ := hrel
    clear hc H0
    by_cases hlt : k < n
    · have hd : decide (k < n) = true := decide_eq_true (by omega)
      have hlk : (bs.take k).length = k := by have := HL.out; rw [List.length_take]; omega
      obtain ⟨b, off, rfl, hsrc⟩ := (HR.out wr hinv.1).2.2.resolve_left (by omega)
      obtain ⟨⟨cap2, hc2⟩, ⟨y, hy⟩, hfr, hst⟩ := hinv.step (by rw [hlk]; omega)
      rw [hlk] at hy hfr hst
      have hs0 := hsrc k hlt
      have hz := wd.isBytes_getD HB.out k
      obtain ⟨z, hzz⟩ : ∃ z, bs.getD k 0 = z := ⟨_, rfl⟩
      have HN : Hid (bs.take (k + 1) = bs.take k ++ [z]) := bl.hid (by
        have hk' : k < bs.length := by have := HL.out; omega
        rw [List.take_succ_eq_append_getElem hk', ← hzz]
        simp [List.getD, hk'])
      rw [hzz] at hs0 hz
      have z0 : 0 ≤ z := hz.1
      have z1 : z < 256 := hz.2
      have HST : Hid (∀ z : Int, 0 ≤ z → z < 256 → LayInv p g l at' (bs.take k ++ [z]) w ((wr.setCell ⟨g, at' + k, none⟩ (.int .u8 z)).drew)) := bl.hid fun z z0 z1 => (hst z z0 z1).drew
      have hk1 : k ≤ n - 1 := by omega
      have w1 : IntKind.i64.wrap (at' : Int) = at' := by rw [IntKind.wrap_i64]; omega
      have w2 : IntKind.i64.wrap ((at' : Int) + (k : Int)) = (at' : Int) + k := by rw [IntKind.wrap_i64]; omega
      have w3 : 0 ≤ (at' : Int) + (k : Int) := by omega
      have w4 : ((at' : Int) + (k : Int)).toNat = at' + k := by omega
      have w5 : (at' : Int) + (k : Int) < (l.length : Int) := by omega
      clear hst hinv hzz hz hsrc hk hlk
      go_wp2
      refine wp_region_still_tail 13 (by kernel_rfl) (by kernel_rfl) ?_
      simp only [List.take_succ_cons, List.take_zero, List.drop_succ_cons, List.drop_zero]
      change wpStill _ _ (World.drew _) _ _ _
      repeat still_step
      refine wpStill_nil ?_
      change wpList _ _ _ _ _ (World.drew _)
      clear w1 w2 w3 w4 w5
      go_wp2
      go_roundw
      case rel => first | exact ⟨k + 1, by omega, by go_num, by rw [HN.out]; exact HST.out _ z0 z1⟩ | ((repeat apply Exists.intro); refine ⟨⟨k + 1, by omega, by go_num, by rw [HN.out]; exact HST.out _ z0 z1⟩, ?_⟩; and_intros <;> rfl)
      case measure => simp [intOf]; omega
    · obtain rfl : k = n := by omega
      have HI : Hid (LayInv p g l at' bs w wr) := bl.hid (by rw [List.take_of_length_le (by have := HL.out; omega)] at hinv; exact hinv)
      clear hinv hlt
      go_wp2
      go_ret
      exact ⟨rfl, HI.out⟩
theorem rlay_any (p g : Nat) (at' : Int) (n sc : Nat) (sa : Option Addr) (bs : List Int) (l : List Int) (w : World) (h : IsRef w p g l) (hr : kt.Rd w sa n bs) (hsg : ∀ ad, sa = some ad → ad.block ≠ g) (a0 : 0 ≤ at') (a1 : at' < 18446744073709551616) (n1 : n < 9223372036854775808) :
    Calls Try.prog 41 #[.pointer (some ⟨p, 0, none⟩), .int .u64 at', .slice sa n sc] w (RLayPost p g l at' bs w) := by
  have hlen := hr.1
  by_cases hf : 16 ≤ at' ∧ 0 ≤ (bs.length : Int) ∧ at' + bs.length ≤ l.length
  · have hff : pl.fit l at' bs.length = true := decide_eq_true hf
    obtain ⟨b, rfl⟩ : ∃ b : Nat, at' = b := ⟨at'.toNat, by omega⟩
    unfold RLayPost
    rw [show pl.layL l b bs = pl.lay l b bs by simp [pl.layL, hff], show pl.layE l b bs.length = 0 by simp [pl.layE, hff]]
    exact rlay_ok p g b n sc sa bs l w h hr hsg (by omega) (by omega)
  · have hff : pl.fit l at' bs.length = false := decide_eq_false hf
    unfold RLayPost
    rw [show pl.layL l at' bs = l by simp [pl.layL, hff], show pl.layE l at' bs.length = 15 by simp [pl.layE, hff]]
    obtain ⟨cap, hcap, hc⟩ := h.cell
    have hL := h.size
    rw [hlen] at hff
    have HF := bl.hid hff
    have H := bl.hid h
    clear h hff hf hr hsg hlen
    go_enter Try.func41, Try.ntmps41
    go_wp2_with fail
    refine (rfits_any p g 0 cap l at' n _ hc hL a0 a1 (by omega)).mono ?_
    rw [HF.out]
    rintro e w' ⟨rfl, rfl⟩
    go_wp2
    go_ret
    exact ⟨rfl, kt.Only.refl _ _, H.out⟩
end Go.Proofs.Ytkohmoekomegnaa
