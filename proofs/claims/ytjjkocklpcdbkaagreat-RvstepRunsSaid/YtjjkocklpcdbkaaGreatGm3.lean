/- The reference's memory: what it is in the heap; sized, fits, New, Load, Store, Bytes, Lay: each by a contract. The reference's memory: Store, Bytes, Lay: each by a contract. The reference's memory: Bytes, by a contract. -/
import Derived.Test.YtjjkocklpcdbkaaGreatGm2
import Derived.RegionTactic
import Derived.BigRegion
namespace Go.Proofs.YtjjkocklpcdbkaaGreat
open Go.RowKit
set_option linter.unusedVariables false
set_option maxRecDepth 100000

/-- block p holds the reference's struct, block g its bytes l (and maybe room behind) -/
structure IsRef (w : World) (p g : Nat) (l : List Int) : Prop where
  apart : p ≠ g
  head : ∃ cap, l.length ≤ cap ∧ w.heap[p]? = some (.cells #[.slice (some ⟨g, 0, none⟩) l.length cap] 95 (0, 0))
  row : ∃ rest : List Value, w.heap[g]? = some (.cells (l.map (Value.int .u8) ++ rest).toArray 5 (0, 0))
  bytes : wd.isBytes l
  size : l.length ≤ 65536

theorem IsRef.cell {w : World} {p g : Nat} {l : List Int} (h : IsRef w p g l) : ∃ cap, l.length ≤ cap ∧ w.cell? ⟨p, 0, none⟩ = some (.slice (some ⟨g, 0, none⟩) l.length cap) := by
  obtain ⟨cap, h1, h2⟩ := h.head
  exact ⟨cap, h1, by rw [cell_of_row w p 0 _ _ _ h2]; rfl⟩
theorem IsRef.kept {w w' : World} {p g : Nat} {l : List Int} (h : IsRef w p g l) (hp : w'.heap[p]? = w.heap[p]?) (hg : w'.heap[g]? = w.heap[g]?) : IsRef w' p g l := by
  obtain ⟨h1, ⟨cap, h2, h3⟩, ⟨rest, h4⟩, h5, h6⟩ := h
  exact ⟨h1, ⟨cap, h2, hp.trans h3⟩, ⟨rest, hg.trans h4⟩, h5, h6⟩
theorem IsRef.lt {w : World} {p g : Nat} {l : List Int} (h : IsRef w p g l) : p < w.heap.size ∧ g < w.heap.size := by
  obtain ⟨h1, ⟨cap, h2, h3⟩, ⟨rest, h4⟩, h5, h6⟩ := h
  exact ⟨(Array.getElem?_eq_some_iff.1 h3).1, (Array.getElem?_eq_some_iff.1 h4).1⟩
theorem IsRef.keep {w w' : World} {p g : Nat} {l : List Int} (h : IsRef w p g l) (hb : Below w.heap.size w w') : IsRef w' p g l := h.kept (hb.block p h.lt.1) (hb.block g h.lt.2)

theorem IsRef.rd {w : World} {p g : Nat} {l : List Int} (h : IsRef w p g l) (a n : Nat) (hf : a + n ≤ l.length) : kt.Rd w (some ⟨g, a, none⟩) n ((l.drop a).take n) := by
  obtain ⟨rest, hr⟩ := h.row
  refine ⟨by rw [List.length_take, List.length_drop]; omega, wd.isBytes_take (wd.isBytes_drop h.bytes _) _, .inr ⟨_, _, rfl, fun i hi => ?_⟩⟩
  have h1 : a + i < l.length := by omega
  rw [cell_of_row w g (a + i) _ _ _ hr]
  simp [List.getElem?_append, h1, List.getD, hi]
theorem rsized_yes (n : Nat) (w : World) (h : n = 1 ∨ n = 2 ∨ n = 4 ∨ n = 8) : Calls Tryz.prog 76 #[.int .i64 n] w fun e w' => e = .returned (.bool true) ∧ w = w' := by
  rcases h with rfl | rfl | rfl | rfl
  · go_enter Tryz.func76, Tryz.ntmps76
    go_wp2
    go_ret
    exact ⟨rfl, rfl⟩
  · go_enter Tryz.func76, Tryz.ntmps76
    go_wp2
    go_ret
    exact ⟨rfl, rfl⟩
  · go_enter Tryz.func76, Tryz.ntmps76
    go_wp2
    go_ret
    exact ⟨rfl, rfl⟩
  · go_enter Tryz.func76, Tryz.ntmps76
    go_wp2
    go_ret
    exact ⟨rfl, rfl⟩
theorem rsized_no (n : Int) (w : World) (h : ¬ (n = 1 ∨ n = 2 ∨ n = 4 ∨ n = 8)) : Calls Tryz.prog 76 #[.int .i64 n] w fun e w' => e = .returned (.bool false) ∧ w = w' := by
  have n1 : (n == 1) = false := by simp; omega
  have n2 : (n == 2) = false := by simp; omega
  have n4 : (n == 4) = false := by simp; omega
  have n8 : (n == 8) = false := by simp; omega
  clear h
  go_enter Tryz.func76, Tryz.ntmps76
  go_wp2
  go_ret
  exact ⟨rfl, rfl⟩
/-- is that a size of a number: for any number -/
theorem rsized_any (n : Int) (w : World) : Calls Tryz.prog 76 #[.int .i64 n] w fun e w' => e = .returned (.bool (pl.sizB n)) ∧ w = w' := by
  by_cases h : n = 1 ∨ n = 2 ∨ n = 4 ∨ n = 8
  · obtain ⟨k, rfl⟩ : ∃ k : Nat, n = k := ⟨n.toNat, by omega⟩
    rw [show pl.sizB k = true from decide_eq_true h]
    exact rsized_yes k w (by omega)
  · rw [show pl.sizB n = false from decide_eq_false h]
    exact rsized_no n w h
def RNewPost (n : Nat) (w : World) (e : Ending) (w' : World) : Prop :=
  ∃ p g, e = .returned (.tuple #[.pointer (some ⟨p, 0, none⟩), .int .i64 0]) ∧ w.heap.size ≤ p ∧ w.heap.size ≤ g ∧ IsRef w' p g (List.replicate n 0) ∧ Below w.heap.size w w'
theorem rnew_ok (n : Nat) (w : World) (h0 : 16 ≤ n) (h1 : n ≤ 65536) : Calls Tryz.prog 22 #[.int .i64 n] w (RNewPost n w) := by
  obtain ⟨i0, hi, hz0, hz1, hz2⟩ := info_parts u8_info
  have n1 : decide ((n : Int) < 16) = false := decide_eq_false (by omega)
  have n2 : decide ((65536 : Int) < (n : Int)) = false := decide_eq_false (by omega)
  go_enter Tryz.func22, Tryz.ntmps22
  go_wp2_with (refine wpList_make_full _ rfl _ _ 25 rfl w.heap.size 5 i0 (.int .u8 0) 1 Tryz.underlying25 hi hz0 hz1 .i64 .i64 _ _ n rfl rfl rfl rfl (by rw [hz2]; omega) (by unfold maxLen; omega) (Nat.le_refl _) ?_)
  intro w1 hown hgr
  have hrow := row_of_own hown
  have hl := (hown.lt w.heap.size rfl).2
  have hb : Below w.heap.size w w1 := (Below.refl _ _).grown hgr (Nat.le_refl _) (fun k hk => by cases hk)
  have hm : IsRef (w1.alloc (.cells #[.slice (some ⟨w.heap.size, 0, none⟩) n n] 95)) w1.heap.size w.heap.size (List.replicate n 0) := by
    obtain ⟨_, rest, hr⟩ := hrow
    refine ⟨by omega, ⟨n, by simp, by rw [List.length_replicate]; exact heap_alloc_new w1 _⟩, ⟨rest, ?_⟩, isBytes_zero n, by simpa using h1⟩
    rw [heap_alloc_old w1 _ hl, hr, cells_zero]
  have HM := bl.hid hm
  clear hm hown hgr hrow
  go_wp2
  go_ret2
  exact ⟨_, _, rfl, hb.size, Nat.le_refl _, HM.out, hb.alloc hb.size _⟩
theorem rnew_no (n : Int) (w : World) (h : n < 16 ∨ 65536 < n) : Calls Tryz.prog 22 #[.int .i64 n] w fun e w' => e = .returned (.tuple #[.pointer none, .int .i64 2]) ∧ w = w' := by
  by_cases h1 : n < 16
  · clear h
    go_enter Tryz.func22, Tryz.ntmps22
    go_wp2
    go_ret2
    exact ⟨rfl, rfl⟩
  · have h2 : 65536 < n := by omega
    clear h
    go_enter Tryz.func22, Tryz.ntmps22
    go_wp2
    go_ret2
    exact ⟨rfl, rfl⟩

theorem rfits_any (p g L cap : Nat) (l : List Int) (at' n : Int) (w : World) (hc : w.cell? ⟨p, 0, none⟩ = some (.slice (some ⟨g, 0, none⟩) l.length cap)) (hL : l.length ≤ 65536) (a0 : 0 ≤ at') (a1 : at' < 18446744073709551616) (n1 : n < 9223372036854775808) :
    Calls Tryz.prog 49 #[.pointer (some ⟨p, 0, none⟩), .int .u64 at', .int .i64 n] w fun e w' => e = .returned (.bool (pl.fit l at' n)) ∧ w = w' := by
  by_cases h : 16 ≤ at' ∧ 0 ≤ n ∧ at' + n ≤ l.length
  · obtain ⟨h1, h2, h3⟩ := h
    rw [show pl.fit l at' n = true from decide_eq_true ⟨h1, h2, h3⟩]
    go_enter Tryz.func49, Tryz.ntmps49
    go_wp2
    all_goals (go_ret; exact ⟨bl.ret1 (bl.bool_eq (by simp; omega)), rfl⟩)
  · rw [show pl.fit l at' n = false from decide_eq_false h]
    by_cases n0 : n < 0
    · clear h
      go_enter Tryz.func49, Tryz.ntmps49
      go_wp2
      all_goals (go_ret; exact ⟨rfl, rfl⟩)
    · by_cases n2 : (l.length : Int) < n
      · have n3 : 0 ≤ n := by omega
        clear h n0
        go_enter Tryz.func49, Tryz.ntmps49
        go_wp2
        all_goals (go_ret; exact ⟨rfl, rfl⟩)
      · by_cases a2 : at' < 16
        · have n3 : 0 ≤ n := by omega
          have n4 : n ≤ (l.length : Int) := by omega
          clear h n0 n2
          go_enter Tryz.func49, Tryz.ntmps49
          go_wp2
          all_goals (go_ret; exact ⟨rfl, rfl⟩)
        · have n3 : 0 ≤ n := by omega
          have n4 : n ≤ (l.length : Int) := by omega
          have n5 : (l.length : Int) - n < at' := by omega
          have n6 : 16 ≤ at' := by omega
          clear h n0 n2 a2
          go_enter Tryz.func49, Tryz.ntmps49
          go_wp2
          all_goals (go_ret; exact ⟨bl.ret1 (bl.bool_eq (by simp; omega)), rfl⟩)
set_option maxHeartbeats 400000 in
theorem rload_ok (p g at' n : Nat) (l : List Int) (w : World) (h : IsRef w p g l) (hn : n = 1 ∨ n = 2 ∨ n = 4 ∨ n = 8) (a0 : 16 ≤ at') (a1 : at' + n ≤ l.length) :
    Calls Tryz.prog 56 #[.pointer (some ⟨p, 0, none⟩), .int .u64 at', .int .i64 n] w fun e w' => e = .returned (.tuple #[.int .u64 (wd.leV ((l.drop at').take n)), .int .i64 0]) ∧ w = w' := by
  obtain ⟨cap, hcap, hc⟩ := h.cell
  have hR := h.rd at' n a1
  have hL := h.size
  have hn8 : n ≤ 8 := by omega
  have n0 : 0 < n := by omega
  have HS : Hid (pl.sizB n = true) := bl.hid (decide_eq_true (by omega))
  have HF : Hid (pl.fit l at' n = true) := bl.hid (decide_eq_true (by omega))
  obtain ⟨bs, hbs⟩ : ∃ bs, (l.drop at').take n = bs := ⟨_, rfl⟩
  rw [hbs] at hR ⊢
  obtain ⟨h1, hb, h3⟩ := hR
  obtain ⟨b', off', e', hcc⟩ := h3.resolve_left (by omega)
  simp only [Option.some.injEq, Addr.mk.injEq] at e'
  obtain ⟨rfl, rfl, -⟩ := e'
  have hc' := bl.hid hcc
  have hb' := bl.hid hb
  have h1' := bl.hid h1
  clear hcc hb h1 h hbs hn h3
  go_enter Tryz.func56, Tryz.ntmps56
  go_wp2_with fail
  refine (rsized_any n _).mono ?_
  rw [HS.out]
  rintro e w' ⟨rfl, rfl⟩
  go_wp2_with fail
  refine (rfits_any p g 0 cap l at' n _ hc hL (by omega) (by omega) (by omega)).mono ?_
  rw [HF.out]
  rintro e w' ⟨rfl, rfl⟩
  go_wp2
  go_loop [8, 9] (fun x i => ∃ k : Nat, k ≤ n ∧ i = .int .i64 ((k : Int) - 1) ∧ x = .int .u64 (wd.leV (bs.drop k))) (fun _ i => (intOf i + 1).toNat)
  case atStart => exact ⟨n, by omega, rfl, bl.int_eq (by rw [List.drop_of_length_le (by have := h1'.out; omega)]; rfl)⟩
  case round =>
    obtain ⟨k, hk, hi, rfl⟩ := hrel
    rcases k with _ | j
    · subst hi
      go_wp2
      go_ret2
      exact ⟨rfl, rfl⟩
    · rw [show ((j + 1 : Nat) : Int) - 1 = (j : Int) by omega] at hi
      subst hi
      have hj : j ≤ n - 1 := by omega
      have hbl := leV_bd8 (bs.drop j) (wd.isBytes_drop hb'.out j) (by have := h1'.out; rw [List.length_drop]; omega)
      have hXb := leV_bd8 (bs.drop (j + 1)) (wd.isBytes_drop hb'.out (j + 1)) (by have := h1'.out; rw [List.length_drop]; omega)
      obtain ⟨d, hdd⟩ : ∃ d, bs.getD j 0 = d := ⟨_, rfl⟩
      have hcell : w.cell? ⟨g, at' + j, none⟩ = some (.int .u8 d) := by rw [← hdd]; exact hc'.out j (by omega)
      have hnx : wd.leV (bs.drop j) = d + 256 * wd.leV (bs.drop (j + 1)) := by rw [← hdd]; exact wd.leV_drop bs j (by have := h1'.out; omega)
      have d0 : 0 ≤ d := by rw [← hdd]; exact (wd.isBytes_getD hb'.out j).1
      have d1 : d < 256 := by rw [← hdd]; exact (wd.isBytes_getD hb'.out j).2
      have HN := bl.hid hnx
      obtain ⟨X, hX⟩ : ∃ X, wd.leV (bs.drop (j + 1)) = X := ⟨_, rfl⟩
      rw [hX] at hXb hnx
      have HX := bl.hid hX
      have x0 : 0 ≤ X := hXb.1
      have x1 : 256 * X + d < 18446744073709551616 := by omega
      have x2 : X < 18446744073709551616 := hXb.2
      rw [hX]
      clear hX hnx hdd hbl hXb hk
      go_wp2
      go_round
      case rel => first | exact ⟨j, by omega, bl.int_eq (by omega), bl.int_eq (by rw [HN.out, HX.out]; omega)⟩ | ((repeat apply Exists.intro); refine ⟨⟨j, by omega, bl.int_eq (by omega), bl.int_eq (by rw [HN.out, HX.out]; omega)⟩, ?_⟩; and_intros <;> rfl)
      case measure => simp [intOf]; try omega
theorem rload_any (p g : Nat) (at' n : Int) (l : List Int) (w : World) (h : IsRef w p g l) (a0 : 0 ≤ at') (a1 : at' < 18446744073709551616) :
    Calls Tryz.prog 56 #[.pointer (some ⟨p, 0, none⟩), .int .u64 at', .int .i64 n] w fun e w' => e = .returned (.tuple #[.int .u64 (pl.ldV l at' n), .int .i64 (pl.ldE l at' n)]) ∧ w = w' := by
  by_cases hn : n = 1 ∨ n = 2 ∨ n = 4 ∨ n = 8
  · have hs : pl.sizB n = true := decide_eq_true hn
    obtain ⟨k, rfl⟩ : ∃ k : Nat, n = k := ⟨n.toNat, by omega⟩
    by_cases hf : 16 ≤ at' ∧ 0 ≤ (k : Int) ∧ at' + k ≤ l.length
    · have hff : pl.fit l at' k = true := decide_eq_true hf
      obtain ⟨b, rfl⟩ : ∃ b : Nat, at' = b := ⟨at'.toNat, by omega⟩
      rw [show pl.ldV l b k = wd.leV ((l.drop b).take k) by simp [pl.ldV, hs, hff], show pl.ldE l b k = 0 by simp [pl.ldE, hs, hff]]
      exact rload_ok p g b k l w h (by omega) (by omega) (by omega)
    · have hff : pl.fit l at' k = false := decide_eq_false hf
      rw [show pl.ldV l at' k = 0 by simp [pl.ldV, hff], show pl.ldE l at' k = 15 by simp [pl.ldE, hs, hff]]
      obtain ⟨cap, hcap, hc⟩ := h.cell
      have hL := h.size
      have HS := bl.hid hs
      have HF := bl.hid hff
      have hk8 : k ≤ 8 := by omega
      clear h hs hff hf hn
      go_enter Tryz.func56, Tryz.ntmps56
      go_wp2_with fail
      refine (rsized_any k _).mono ?_
      rw [HS.out]
      rintro e w' ⟨rfl, rfl⟩
      go_wp2_with fail
      refine (rfits_any p g 0 cap l at' k _ hc hL a0 a1 (by omega)).mono ?_
      rw [HF.out]
      rintro e w' ⟨rfl, rfl⟩
      go_wp2
      go_ret2
      exact ⟨rfl, rfl⟩
  · have hs : pl.sizB n = false := decide_eq_false hn
    rw [show pl.ldV l at' n = 0 by simp [pl.ldV, hs], show pl.ldE l at' n = 2 by simp [pl.ldE, hs]]
    have HS := bl.hid hs
    clear hs hn
    go_enter Tryz.func56, Tryz.ntmps56
    go_wp2_with fail
    refine (rsized_any n _).mono ?_
    rw [HS.out]
    rintro e w' ⟨rfl, rfl⟩
    go_wp2
    go_ret2
    exact ⟨rfl, rfl⟩
end Go.Proofs.YtjjkocklpcdbkaaGreat
namespace Go.Proofs.YtjjkocklpcdbkaaGreat
open Go.RowKit
set_option linter.unusedVariables false
set_option maxRecDepth 100000

namespace pl
theorem lay_nil (l : List Int) (a : Nat) : lay l a [] = l := by simp [lay]
theorem lay_snoc (l : List Int) (a : Nat) (bs : List Int) (z : Int) (h : a + bs.length < l.length) : (lay l a bs).set (a + bs.length) z = lay l a (bs ++ [z]) := by
  unfold lay
  rw [List.set_append_right _ _ (by simp; omega), List.length_take, Nat.min_eq_left (by omega), Nat.add_sub_cancel_left, List.set_append_right _ _ (Nat.le_refl _), Nat.sub_self, List.drop_eq_getElem_cons h]
  simp [Nat.add_assoc]
end pl
theorem cell_of_same {w w' : World} {b o : Nat} (h : w'.heap[b]? = w.heap[b]?) : w'.cell? ⟨b, o, none⟩ = w.cell? ⟨b, o, none⟩ := by
  unfold World.cell?
  rw [h]
theorem Rd_only {w w' : World} {g n : Nat} {a : Option Addr} {l : List Int} (h : kt.Rd w a n l) (ho : kt.Only g w w') (hg : ∀ ad, a = some ad → 0 < n → ad.block ≠ g) : kt.Rd w' a n l := by
  refine ⟨h.1, h.2.1, ?_⟩
  rcases h.2.2 with h0 | ⟨b, off, rfl, hc⟩
  · exact .inl h0
  · exact .inr ⟨b, off, rfl, fun i hi => (cell_of_same (ho.block b (hg _ rfl (by omega)))).trans (hc i hi)⟩
theorem IsRef.set {w : World} {p g : Nat} {l : List Int} (h : IsRef w p g l) (i : Nat) (hi : i < l.length) (z : Int) (z0 : 0 ≤ z) (z1 : z < 256) : IsRef (w.setCell ⟨g, i, none⟩ (.int .u8 z)) p g (l.set i z) := by
  obtain ⟨h1, ⟨cap, h2, h3⟩, ⟨rest, h4⟩, h5, h6⟩ := h
  refine ⟨h1, ⟨cap, by simpa using h2, ?_⟩, ⟨rest, ?_⟩, ?_, by simpa using h6⟩
  · rw [Below.heap_setCell w ⟨g, i, none⟩ _ p h1, h3]
    simp
  · rw [heap_setCell_same w g i _ _ _ h4]
    congr 2
    rw [List.map_set]
    have hi' : i < (l.map (Value.int .u8)).length := by simpa using hi
    apply Array.toList_inj.1
    simp [List.set_append_left _ _ hi']
  · intro y hy
    rcases List.mem_or_eq_of_mem_set hy with hy | rfl
    · exact h5 y hy
    · exact ⟨z0, z1⟩
theorem IsRef.at {w : World} {p g : Nat} {l : List Int} (h : IsRef w p g l) (i : Nat) (hi : i < l.length) : w.cell? ⟨g, i, none⟩ = some (.int .u8 (l.getD i 0)) ∧ w.frozen? ⟨g, i, none⟩ = false := by
  obtain ⟨rest, hr⟩ := h.row
  refine ⟨?_, frozen_of_row w g i _ _ hr⟩
  rw [cell_of_row w g i _ _ _ hr]
  simp [List.getElem?_append, hi, List.getD]
/-- the reference's memory while bytes are laid -/
def LayInv (p g : Nat) (l : List Int) (a : Nat) (bs : List Int) (w wr : World) : Prop := kt.Only g w wr ∧ IsRef wr p g (pl.lay l a bs)
theorem LayInv.start {w : World} {p g : Nat} {l : List Int} (h : IsRef w p g l) (a : Nat) : LayInv p g l a [] w w := ⟨kt.Only.refl _ _, by rw [pl.lay_nil]; exact h⟩
theorem LayInv.step {w wr : World} {p g a : Nat} {l bs : List Int} (h : LayInv p g l a bs w wr) (hf : a + bs.length < l.length) :
    (∃ cap, wr.cell? ⟨p, 0, none⟩ = some (.slice (some ⟨g, 0, none⟩) l.length cap)) ∧ (∃ y, wr.cell? ⟨g, a + bs.length, none⟩ = some (.int .u8 y)) ∧ wr.frozen? ⟨g, a + bs.length, none⟩ = false ∧
    ∀ z : Int, 0 ≤ z → z < 256 → LayInv p g l a (bs ++ [z]) w (wr.setCell ⟨g, a + bs.length, none⟩ (.int .u8 z)) := by
  obtain ⟨ho, hr⟩ := h
  have hl := pl.lay_length l a bs (by omega)
  obtain ⟨cap, hcap, hc⟩ := hr.cell
  have hat := hr.at (a + bs.length) (by omega)
  refine ⟨⟨cap, by rw [hl] at hc; exact hc⟩, ⟨_, hat.1⟩, hat.2, fun z z0 z1 => ⟨ho.trans (kt.Only.setCell g _ wr _), ?_⟩⟩
  rw [← pl.lay_snoc l a bs z hf]
  exact hr.set _ (by omega) z z0 z1
theorem IsRef.drew {w : World} {p g : Nat} {l : List Int} (h : IsRef w p g l) : IsRef w.drew p g l := h.kept rfl rfl
theorem LayInv.drew {w wr : World} {p g a : Nat} {l bs : List Int} (h : LayInv p g l a bs w wr) : LayInv p g l a bs w wr.drew := ⟨⟨h.1.os, h.1.tape, h.1.output, h.1.size, h.1.block⟩, h.2.drew⟩

def RStorePost (p g : Nat) (l : List Int) (a n v : Int) (w : World) (e : Ending) (w' : World) : Prop := e = .returned (.int .i64 (pl.ldE l a n)) ∧ kt.Only g w w' ∧ IsRef w' p g (pl.stL l a n v)
def RLayPost (p g : Nat) (l : List Int) (a : Int) (bs : List Int) (w : World) (e : Ending) (w' : World) : Prop := e = .returned (.int .i64 (pl.layE l a bs.length)) ∧ kt.Only g w w' ∧ IsRef w' p g (pl.layL l a bs)
theorem dv_byte (x : Int) (k : Nat) : wd.leB x (k + 1) = wd.leB x k ++ [wd.dv x k % 256] := wd.leB_snoc k x
set_option maxHeartbeats 800000 in
theorem rstore_ok (p g at' n : Nat) (x : Int) (l : List Int) (w : World) (h : IsRef w p g l) (hn : n = 1 ∨ n = 2 ∨ n = 4 ∨ n = 8) (x0 : 0 ≤ x) (x1 : x < 18446744073709551616) (a0 : 16 ≤ at') (a1 : at' + n ≤ l.length) :
    Calls Tryz.prog 55 #[.pointer (some ⟨p, 0, none⟩), .int .u64 at', .int .i64 n, .int .u64 x] w fun e w' => e = .returned (.int .i64 0) ∧ LayInv p g l at' (wd.leB x n) w w' := by
  obtain ⟨cap, hcap, hc⟩ := h.cell
  have hL := h.size
  have hn8 : n ≤ 8 := by omega
  have n0 : 0 < n := by omega
  have HS : Hid (pl.sizB n = true) := bl.hid (decide_eq_true (by omega))
  have HF : Hid (pl.fit l at' n = true) := bl.hid (decide_eq_true (by omega))
  have H0 := LayInv.start h at'
  clear h hn
  go_enter Tryz.func55, Tryz.ntmps55
  go_wp2_with fail
  refine (rsized_any n _).mono ?_
  rw [HS.out]
  rintro e w' ⟨rfl, rfl⟩
  go_wp2_with fail
  refine (rfits_any p g 0 cap l at' n _ hc hL (by omega) (by omega) (by omega)).mono ?_
  rw [HF.out]
  rintro e w' ⟨rfl, rfl⟩
  go_wp2
  go_loopw [3, 9] (fun v i wr => ∃ k : Nat, k ≤ n ∧ i = .int .i64 k ∧ v = .int .u64 (wd.dv x k) ∧ LayInv p g l at' (wd.leB x k) w wr) (fun _ i _ => n - (intOf i).toNat)
  case atStart => exact ⟨0, by omega, rfl, bl.int_eq (by simp [wd.dv]), H0⟩
  case round =>
    obtain ⟨k, hk, rfl, rfl, hinv⟩ := hrel
    clear hc H0
    by_cases hlt : k < n
    · have hd : decide ((k : Int) < (n : Int)) = true := decide_eq_true (by omega)
      obtain ⟨⟨cap2, hc2⟩, ⟨y, hy⟩, hfr, hst⟩ := hinv.step (by rw [wd.leB_length]; omega)
      rw [wd.leB_length] at hy hfr hst
      have hb := wd.dv_bd x k x0 x1
      have HST := bl.hid hst
      obtain ⟨X, hX⟩ : ∃ X, wd.dv x k = X := ⟨_, rfl⟩
      have HN : Hid (wd.dv x (k + 1) = X / 256) := bl.hid (by rw [← hX]; exact wd.dv_succ x k)
      have HB : Hid (wd.leB x (k + 1) = wd.leB x k ++ [X % 256]) := bl.hid (by rw [← hX]; exact dv_byte x k)
      rw [hX] at hb
      have X0 : 0 ≤ X := hb.1
      have X1 : X < 18446744073709551616 := hb.2
      have hw8 : IntKind.u8.wrap (X % 256) = X % 256 := by rw [IntKind.wrap_u8']; omega
      have hk1 : k ≤ n - 1 := by omega
      rw [hX]
      clear hX hst hinv hb hlt hk
      go_wp2
      go_roundw
      case rel => first | exact ⟨k + 1, by omega, by go_num, bl.int_eq (by rw [HN.out]), by rw [HB.out]; exact HST.out _ (by omega) (by omega)⟩ | ((repeat apply Exists.intro); refine ⟨⟨k + 1, by omega, by go_num, bl.int_eq (by rw [HN.out]), by rw [HB.out]; exact HST.out _ (by omega) (by omega)⟩, ?_⟩; and_intros <;> rfl)
      case measure => simp [intOf]; omega
    · obtain rfl : k = n := by omega
      have HI := bl.hid hinv
      clear hinv hlt
      go_wp2
      go_ret
      exact ⟨rfl, HI.out⟩
theorem rstore_any (p g : Nat) (at' n x : Int) (l : List Int) (w : World) (h : IsRef w p g l) (a0 : 0 ≤ at') (a1 : at' < 18446744073709551616) (x0 : 0 ≤ x) (x1 : x < 18446744073709551616) :
    Calls Tryz.prog 55 #[.pointer (some ⟨p, 0, none⟩), .int .u64 at', .int .i64 n, .int .u64 x] w (RStorePost p g l at' n x w) := by
  by_cases hn : n = 1 ∨ n = 2 ∨ n = 4 ∨ n = 8
  · have hs : pl.sizB n = true := decide_eq_true hn
    obtain ⟨k, rfl⟩ : ∃ k : Nat, n = k := ⟨n.toNat, by omega⟩
    by_cases hf : 16 ≤ at' ∧ 0 ≤ (k : Int) ∧ at' + k ≤ l.length
    · have hff : pl.fit l at' k = true := decide_eq_true hf
      obtain ⟨b, rfl⟩ : ∃ b : Nat, at' = b := ⟨at'.toNat, by omega⟩
      unfold RStorePost
      rw [show pl.stL l b k x = pl.lay l b (wd.leB x k) by simp [pl.stL, hs, hff], show pl.ldE l b k = 0 by simp [pl.ldE, hs, hff]]
      exact rstore_ok p g b k x l w h (by omega) x0 x1 (by omega) (by omega)
    · have hff : pl.fit l at' k = false := decide_eq_false hf
      unfold RStorePost
      rw [show pl.stL l at' k x = l by simp [pl.stL, hff], show pl.ldE l at' k = 15 by simp [pl.ldE, hs, hff]]
      obtain ⟨cap, hcap, hc⟩ := h.cell
      have hL := h.size
      have HS := bl.hid hs
      have HF := bl.hid hff
      have H := bl.hid h
      have hk8 : k ≤ 8 := by omega
      clear h hs hff hf hn
      go_enter Tryz.func55, Tryz.ntmps55
      go_wp2_with fail
      refine (rsized_any k _).mono ?_
      rw [HS.out]
      rintro e w' ⟨rfl, rfl⟩
      go_wp2_with fail
      refine (rfits_any p g 0 cap l at' k _ hc hL a0 a1 (by omega)).mono ?_
      rw [HF.out]
      rintro e w' ⟨rfl, rfl⟩
      go_wp2
      go_ret
      exact ⟨rfl, kt.Only.refl _ _, H.out⟩
  · have hs : pl.sizB n = false := decide_eq_false hn
    unfold RStorePost
    rw [show pl.stL l at' n x = l by simp [pl.stL, hs], show pl.ldE l at' n = 2 by simp [pl.ldE, hs]]
    have HS := bl.hid hs
    have H := bl.hid h
    clear hs hn h
    go_enter Tryz.func55, Tryz.ntmps55
    go_wp2_with fail
    refine (rsized_any n _).mono ?_
    rw [HS.out]
    rintro e w' ⟨rfl, rfl⟩
    go_wp2
    go_ret
    exact ⟨rfl, kt.Only.refl _ _, H.out⟩
set_option maxHeartbeats 800000 in
theorem rlay_ok (p g at' n sc : Nat) (sa : Option Addr) (bs : List Int) (l : List Int) (w : World) (h : IsRef w p g l) (hr : kt.Rd w sa n bs) (hsg : ∀ ad, sa = some ad → 0 < n → ad.block ≠ g) (a0 : 16 ≤ at') (a1 : at' + n ≤ l.length) :
    Calls Tryz.prog 23 #[.pointer (some ⟨p, 0, none⟩), .int .u64 at', .slice sa n sc] w fun e w' => e = .returned (.int .i64 0) ∧ LayInv p g l at' bs w w' := by
  obtain ⟨cap, hcap, hc⟩ := h.cell
  have hL := h.size
  have HF : Hid (pl.fit l at' n = true) := bl.hid (decide_eq_true (by omega))
  have H0 := LayInv.start h at'
  have HR : Hid (∀ wr, kt.Only g w wr → kt.Rd wr sa n bs) := bl.hid fun wr ho => Rd_only hr ho hsg
  have HL := bl.hid hr.1
  have HB := bl.hid hr.2.1
  clear h hr hsg
  go_enter Tryz.func23, Tryz.ntmps23
  go_wp2_with fail
  refine (rfits_any p g 0 cap l at' n _ hc hL (by omega) (by omega) (by omega)).mono ?_
  rw [HF.out]
  rintro e w' ⟨rfl, rfl⟩
  go_wp2
  go_loopw [7] (fun i wr => ∃ k : Nat, k ≤ n ∧ i = .int .i64 k ∧ LayInv p g l at' (bs.take k) w wr) (fun i _ => n - (intOf i).toNat)
  case atStart => exact ⟨0, by omega, rfl, H0⟩
  case round =>
    obtain ⟨k, hk, rfl, hinv⟩ := hrel
    clear hc H0
    by_cases hlt : k < n
    · have hd : decide (k < n) = true := decide_eq_true (by omega)
      have hlk : (bs.take k).length = k := by have := HL.out; rw [List.length_take]; omega
      obtain ⟨b, off, rfl, hsrc⟩ := (HR.out wr hinv.1).2.2.resolve_left (by omega)
      obtain ⟨⟨cap2, hc2⟩, ⟨y, hy⟩, hfr, hst⟩ := hinv.step (by rw [hlk]; omega)
      rw [hlk] at hy hfr hst
      have hs0 := hsrc k hlt
      have hz := wd.isBytes_getD HB.out k
      obtain ⟨z, hzz⟩ : ∃ z, bs.getD k 0 = z := ⟨_, rfl⟩
      have HN : Hid (bs.take (k + 1) = bs.take k ++ [z]) := bl.hid (by
        have hk' : k < bs.length := by have := HL.out; omega
        rw [List.take_succ_eq_append_getElem hk', ← hzz]
        simp [List.getD, hk'])
      rw [hzz] at hs0 hz
      have z0 : 0 ≤ z := hz.1
      have z1 : z < 256 := hz.2
      have HST : Hid (∀ z : Int, 0 ≤ z → z < 256 → LayInv p g l at' (bs.take k ++ [z]) w ((wr.setCell ⟨g, at' + k, none⟩ (.int .u8 z)).drew)) := bl.hid fun z z0 z1 => (hst z z0 z1).drew
      have hk1 : k ≤ n - 1 := by omega
      have w1 : IntKind.i64.wrap (at' : Int) = at' := by rw [IntKind.wrap_i64]; omega
      have w2 : IntKind.i64.wrap ((at' : Int) + (k : Int)) = (at' : Int) + k := by rw [IntKind.wrap_i64]; omega
      have w3 : 0 ≤ (at' : Int) + (k : Int) := by omega
      have w4 : ((at' : Int) + (k : Int)).toNat = at' + k := by omega
      have w5 : (at' : Int) + (k : Int) < (l.length : Int) := by omega
      clear hst hinv hzz hz hsrc hk hlk
      go_wp2
      refine wp_region_still_tail 13 (by kernel_rfl) (by kernel_rfl) ?_
      simp only [List.take_succ_cons, List.take_zero, List.drop_succ_cons, List.drop_zero]
      change wpStill _ _ (World.drew _) _ _ _
      repeat still_step
      refine wpStill_nil ?_
      change wpList _ _ _ _ _ (World.drew _)
      clear w1 w2 w3 w4 w5
      go_wp2
      go_roundw
      case rel => first | exact ⟨k + 1, by omega, by go_num, by rw [HN.out]; exact HST.out _ z0 z1⟩ | ((repeat apply Exists.intro); refine ⟨⟨k + 1, by omega, by go_num, by rw [HN.out]; exact HST.out _ z0 z1⟩, ?_⟩; and_intros <;> rfl)
      case measure => simp [intOf]; omega
    · obtain rfl : k = n := by omega
      have HI : Hid (LayInv p g l at' bs w wr) := bl.hid (by rw [List.take_of_length_le (by have := HL.out; omega)] at hinv; exact hinv)
      clear hinv hlt
      go_wp2
      go_ret
      exact ⟨rfl, HI.out⟩
theorem rlay_any (p g : Nat) (at' : Int) (n sc : Nat) (sa : Option Addr) (bs : List Int) (l : List Int) (w : World) (h : IsRef w p g l) (hr : kt.Rd w sa n bs) (hsg : ∀ ad, sa = some ad → 0 < n → ad.block ≠ g) (a0 : 0 ≤ at') (a1 : at' < 18446744073709551616) (n1 : n < 9223372036854775808) :
    Calls Tryz.prog 23 #[.pointer (some ⟨p, 0, none⟩), .int .u64 at', .slice sa n sc] w (RLayPost p g l at' bs w) := by
  have hlen := hr.1
  by_cases hf : 16 ≤ at' ∧ 0 ≤ (bs.length : Int) ∧ at' + bs.length ≤ l.length
  · have hff : pl.fit l at' bs.length = true := decide_eq_true hf
    obtain ⟨b, rfl⟩ : ∃ b : Nat, at' = b := ⟨at'.toNat, by omega⟩
    unfold RLayPost
    rw [show pl.layL l b bs = pl.lay l b bs by simp [pl.layL, hff], show pl.layE l b bs.length = 0 by simp [pl.layE, hff]]
    exact rlay_ok p g b n sc sa bs l w h hr hsg (by omega) (by omega)
  · have hff : pl.fit l at' bs.length = false := decide_eq_false hf
    unfold RLayPost
    rw [show pl.layL l at' bs = l by simp [pl.layL, hff], show pl.layE l at' bs.length = 15 by simp [pl.layE, hff]]
    obtain ⟨cap, hcap, hc⟩ := h.cell
    have hL := h.size
    rw [hlen] at hff
    have HF := bl.hid hff
    have H := bl.hid h
    clear h hff hf hr hsg hlen
    go_enter Tryz.func23, Tryz.ntmps23
    go_wp2_with fail
    refine (rfits_any p g 0 cap l at' n _ hc hL a0 a1 (by omega)).mono ?_
    rw [HF.out]
    rintro e w' ⟨rfl, rfl⟩
    go_wp2
    go_ret
    exact ⟨rfl, kt.Only.refl _ _, H.out⟩
end Go.Proofs.YtjjkocklpcdbkaaGreat
namespace Go.Proofs.YtjjkocklpcdbkaaGreat
open Go.RowKit
set_option linter.unusedVariables false
set_option maxRecDepth 100000

end Go.Proofs.YtjjkocklpcdbkaaGreat
