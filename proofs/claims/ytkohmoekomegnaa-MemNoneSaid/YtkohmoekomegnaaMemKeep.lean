/- What MemKeeps keeps: lemmas on lists and worlds. -/
import Derived.Test.YtkohmoekomegnaaMemActs
namespace Go.Proofs.Ytkohmoekomegnaa
open Go.RowKit
set_option linter.unusedVariables false

theorem made_int (x : Int) (n : Nat) (w : World) (hx : x = n) (h0 : 16 ≤ n) (h1 : n ≤ 65536) : Calls Try.prog 9 #[.int .i64 x] w (MadePost n w) := by
  subst hx
  exact made_ok n w h0 h1
theorem _root_.Go.RowKit.Below.drewN' {B : Nat} {w w' : World} (h : Below B w w') (n : Nat) : Below B w (w'.drewN n) := ⟨h.os, h.tape, h.output, h.size, h.block⟩
theorem Rd_drew {w : World} {a : Option Addr} {n : Nat} {l : List Int} (h : kt.Rd w a n l) : kt.Rd w.drew a n l := h
/-- the memory has so many bytes, whatever was laid; below block B all is as it was -/
def KeepInv (p g s : Nat) (w wr : World) : Prop := ∃ L : List Int, L.length = s ∧ IsMem wr p g L ∧ Below w.heap.size w wr
theorem KeepInv.store {p g s : Nat} {w wr w2 : World} {L L2 : List Int} (hl : L2.length = s) (hb : Below w.heap.size w wr) (hgr : wr.drew.grownBy w2 (some g)) (hg : w.heap.size ≤ g) (hm : IsMem w2 p g L2) : KeepInv p g s w w2 :=
  ⟨L2, hl, hm, hb.drew.trans (grown_below hgr hg hb.size)⟩
namespace pl
/-- outside what was stored nothing has turned -/
theorem lay_else (l : List Int) (a : Nat) (bs : List Int) (j : Nat) (h : a + bs.length ≤ l.length) (hj : j < a ∨ a + bs.length ≤ j) : (lay l a bs).getD j 0 = l.getD j 0 := by
  unfold lay
  have hl : (l.take a).length = a := by rw [List.length_take]; omega
  rw [List.getD_eq_getElem?_getD, List.getD_eq_getElem?_getD]
  rcases hj with hj | hj
  · rw [List.getElem?_append_left (by omega), List.getElem?_take_of_lt hj]
  · rw [List.getElem?_append_right (by omega), List.getElem?_append_right (by omega), List.getElem?_drop, hl, show a + bs.length + (j - a - bs.length) = j by omega]
theorem keep_fit (L : List Int) (a n : Nat) (v : Int) (hn : n = 1 ∨ n = 2 ∨ n = 4 ∨ n = 8) (a0 : 16 ≤ a) (a1 : a + n ≤ L.length) :
    ldE L a n = 0 ∧ stL L a n v = lay L a (wd.leB v n) ∧ ldE (lay L a (wd.leB v n)) a n = 0 ∧ ldV (lay L a (wd.leB v n)) a n = v % 256 ^ n := by
  have hf : fit L a n = true := decide_eq_true (by omega)
  have hl2 : (lay L a (wd.leB v n)).length = L.length := lay_length _ _ _ (by rw [wd.leB_length]; omega)
  have hf2 : fit (lay L a (wd.leB v n)) a n = true := decide_eq_true (by omega)
  have hb := lay_back L a (wd.leB v n) (by rw [wd.leB_length]; omega)
  rw [wd.leB_length] at hb
  refine ⟨by simp [ldE, siz n hn, hf], by simp [stL, siz n hn, hf], by simp [ldE, siz n hn, hf2], ?_⟩
  rw [← wd.leV_leB n v]
  simp [ldV, siz n hn, hf2, hb]
theorem keep_no (L : List Int) (a v : Int) (n : Nat) (hn : n = 1 ∨ n = 2 ∨ n = 4 ∨ n = 8) (h : a < 16 ∨ (L.length : Int) < a + n) : ldE L a n = 15 ∧ stL L a n v = L ∧ ldV L a n = 0 := by
  have hf : fit L a n = false := decide_eq_false (by omega)
  exact ⟨by simp [ldE, siz n hn, hf], by simp [stL, hf], by simp [ldV, hf]⟩
theorem keep_all (L : List Int) (s : Nat) (hl : L.length = s) (hs : 16 ≤ s) : byL L 16 (s - 16) = L.drop 16 ∧ byE L 16 (s - 16) = 0 := by
  have hf : fit L 16 ((s : Int) - 16) = true := decide_eq_true (by omega)
  have h0 : 0 ≤ (s : Int) - 16 := by omega
  refine ⟨?_, by rw [byE, if_pos h0, if_pos hf]⟩
  rw [byL, if_pos hf]
  exact List.take_of_length_le (by rw [List.length_drop]; omega)
end pl
/-- all bytes but nobody's, told in new memory -/
def TellK (t : Nat) (L : List Int) (w : World) (e : Ending) (w' : World) : Prop :=
  ∃ a c, e = .returned (.tuple #[.slice a t c, .int .i64 0]) ∧ kt.Rd w' a t (L.drop 16) ∧ (∀ ad, a = some ad → w.heap.size ≤ ad.block) ∧ Below w.heap.size w w'
theorem bytes_keep (p g s t : Nat) (L : List Int) (w : World) (h : IsMem w p g L) (hl : L.length = s) (hs : s = 16 + t) (hs1 : s < 216) : Calls Try.prog 17 #[.pointer (some ⟨p, 0, none⟩), .int .u64 16, .int .i64 ((s : Int) - 16)] w (TellK t L w) := by
  have K := pl.keep_all L s hl (by omega)
  have hb := h.bytes
  refine (bytes_any p g 16 ((s : Int) - 16) L w h (by omega) (by omega) (by omega)).mono fun e w' q => ?_
  rw [K.1, K.2] at q
  obtain ⟨a, c, rfl, hown, hbl⟩ := q
  have hlen : (L.drop 16).length = t := by rw [List.length_drop]; omega
  refine ⟨a, c, by rw [hlen], by have := Rd_own (wd.isBytes_drop hb 16) hown; rwa [hlen] at this, fun ad e => ?_, hbl⟩
  subst e
  exact (hown.lt ad.block rfl).1
theorem Rd_grown {w w' : World} {g n : Nat} {a : Option Addr} {l : List Int} (h : kt.Rd w a n l) (hgr : w.grownBy w' (some g)) (hne : ∀ ad, a = some ad → ad.block ≠ g) : kt.Rd w' a n l := by
  refine ⟨h.1, h.2.1, ?_⟩
  rcases h.2.2 with h0 | ⟨b, off, rfl, hc⟩
  · exact .inl h0
  · exact .inr ⟨b, off, rfl, fun i hi => (cell_of_same (hgr.block b (block_lt_of_cell (hc i hi)) (by have := hne _ rfl; simpa using this))).trans (hc i hi)⟩
/-- byte i of what Bytes told -/
theorem told_at {w : World} {a : Option Addr} {n : Nat} {L : List Int} (h : kt.Rd w a n (L.drop 16)) (i : Nat) (hi : i < n) : ∃ b off, a = some ⟨b, off, none⟩ ∧ w.cell? ⟨b, off + i, none⟩ = some (.int .u8 (L.getD (16 + i) 0)) := by
  obtain ⟨b, off, e, hc⟩ := h.2.2.resolve_left (by omega)
  refine ⟨b, off, e, ?_⟩
  rw [hc i hi, List.getD_eq_getElem?_getD, List.getD_eq_getElem?_getD, List.getElem?_drop]
end Go.Proofs.Ytkohmoekomegnaa
