/- The reference's memory: what it is in the heap; sized, fits, New, Load, Store, Bytes, Lay: each by a contract. -/
import Derived.Test.YtkohmoekomegnaaMemNew
namespace Go.Proofs.Ytkohmoekomegnaa
open Go.RowKit
set_option linter.unusedVariables false

/-- block p holds the reference's struct, block g its bytes l (and maybe room behind) -/
structure IsRef (w : World) (p g : Nat) (l : List Int) : Prop where
  apart : p ≠ g
  head : ∃ cap, l.length ≤ cap ∧ w.heap[p]? = some (.cells #[.slice (some ⟨g, 0, none⟩) l.length cap] 65 (0, 0))
  row : ∃ rest : List Value, w.heap[g]? = some (.cells (l.map (Value.int .u8) ++ rest).toArray 5 (0, 0))
  bytes : wd.isBytes l
  size : l.length ≤ 65536

theorem IsRef.cell {w : World} {p g : Nat} {l : List Int} (h : IsRef w p g l) : ∃ cap, l.length ≤ cap ∧ w.cell? ⟨p, 0, none⟩ = some (.slice (some ⟨g, 0, none⟩) l.length cap) := by
  obtain ⟨cap, h1, h2⟩ := h.head
  exact ⟨cap, h1, by rw [cell_of_row w p 0 _ _ _ h2]; rfl⟩
theorem IsRef.kept {w w' : World} {p g : Nat} {l : List Int} (h : IsRef w p g l) (hp : w'.heap[p]? = w.heap[p]?) (hg : w'.heap[g]? = w.heap[g]?) : IsRef w' p g l := by
  obtain ⟨h1, ⟨cap, h2, h3⟩, ⟨rest, h4⟩, h5, h6⟩ := h
  exact ⟨h1, ⟨cap, h2, hp.trans h3⟩, ⟨rest, hg.trans h4⟩, h5, h6⟩
theorem IsRef.lt {w : World} {p g : Nat} {l : List Int} (h : IsRef w p g l) : p < w.heap.size ∧ g < w.heap.size := by
  obtain ⟨h1, ⟨cap, h2, h3⟩, ⟨rest, h4⟩, h5, h6⟩ := h
  exact ⟨(Array.getElem?_eq_some_iff.1 h3).1, (Array.getElem?_eq_some_iff.1 h4).1⟩
theorem IsRef.keep {w w' : World} {p g : Nat} {l : List Int} (h : IsRef w p g l) (hb : Below w.heap.size w w') : IsRef w' p g l := h.kept (hb.block p h.lt.1) (hb.block g h.lt.2)

theorem IsRef.rd {w : World} {p g : Nat} {l : List Int} (h : IsRef w p g l) (a n : Nat) (hf : a + n ≤ l.length) : kt.Rd w (some ⟨g, a, none⟩) n ((l.drop a).take n) := by
  obtain ⟨rest, hr⟩ := h.row
  refine ⟨by rw [List.length_take, List.length_drop]; omega, wd.isBytes_take (wd.isBytes_drop h.bytes _) _, .inr ⟨_, _, rfl, fun i hi => ?_⟩⟩
  have h1 : a + i < l.length := by omega
  rw [cell_of_row w g (a + i) _ _ _ hr]
  simp [List.getElem?_append, h1, List.getD, hi]
theorem rsized_yes (n : Nat) (w : World) (h : n = 1 ∨ n = 2 ∨ n = 4 ∨ n = 8) : Calls Try.prog 47 #[.int .i64 n] w fun e w' => e = .returned (.bool true) ∧ w = w' := by
  rcases h with rfl | rfl | rfl | rfl
  · go_enter Try.func47, Try.ntmps47
    go_wp2
    go_ret
    exact ⟨rfl, rfl⟩
  · go_enter Try.func47, Try.ntmps47
    go_wp2
    go_ret
    exact ⟨rfl, rfl⟩
  · go_enter Try.func47, Try.ntmps47
    go_wp2
    go_ret
    exact ⟨rfl, rfl⟩
  · go_enter Try.func47, Try.ntmps47
    go_wp2
    go_ret
    exact ⟨rfl, rfl⟩
theorem rsized_no (n : Int) (w : World) (h : ¬ (n = 1 ∨ n = 2 ∨ n = 4 ∨ n = 8)) : Calls Try.prog 47 #[.int .i64 n] w fun e w' => e = .returned (.bool false) ∧ w = w' := by
  have n1 : (n == 1) = false := by simp; omega
  have n2 : (n == 2) = false := by simp; omega
  have n4 : (n == 4) = false := by simp; omega
  have n8 : (n == 8) = false := by simp; omega
  clear h
  go_enter Try.func47, Try.ntmps47
  go_wp2
  go_ret
  exact ⟨rfl, rfl⟩
/-- is that a size of a number: for any number -/
theorem rsized_any (n : Int) (w : World) : Calls Try.prog 47 #[.int .i64 n] w fun e w' => e = .returned (.bool (pl.sizB n)) ∧ w = w' := by
  by_cases h : n = 1 ∨ n = 2 ∨ n = 4 ∨ n = 8
  · obtain ⟨k, rfl⟩ : ∃ k : Nat, n = k := ⟨n.toNat, by omega⟩
    rw [show pl.sizB k = true from decide_eq_true h]
    exact rsized_yes k w (by omega)
  · rw [show pl.sizB n = false from decide_eq_false h]
    exact rsized_no n w h
def RNewPost (n : Nat) (w : World) (e : Ending) (w' : World) : Prop :=
  ∃ p g, e = .returned (.tuple #[.pointer (some ⟨p, 0, none⟩), .int .i64 0]) ∧ w.heap.size ≤ p ∧ w.heap.size ≤ g ∧ IsRef w' p g (List.replicate n 0) ∧ Below w.heap.size w w'
theorem rnew_ok (n : Nat) (w : World) (h0 : 16 ≤ n) (h1 : n ≤ 65536) : Calls Try.prog 22 #[.int .i64 n] w (RNewPost n w) := by
  obtain ⟨i0, hi, hz0, hz1, hz2⟩ := info_parts u8_info
  have n1 : decide ((n : Int) < 16) = false := decide_eq_false (by omega)
  have n2 : decide ((65536 : Int) < (n : Int)) = false := decide_eq_false (by omega)
  go_enter Try.func22, Try.ntmps22
  go_wp2_with (refine wpList_make_full _ rfl _ _ 22 rfl w.heap.size 5 i0 (.int .u8 0) 1 Try.underlying22 hi hz0 hz1 .i64 .i64 _ _ n rfl rfl rfl rfl (by rw [hz2]; omega) (by unfold maxLen; omega) (Nat.le_refl _) ?_)
  intro w1 hown hgr
  have hrow := row_of_own hown
  have hl := (hown.lt w.heap.size rfl).2
  have hb : Below w.heap.size w w1 := (Below.refl _ _).grown hgr (Nat.le_refl _) (fun k hk => by cases hk)
  have hm : IsRef (w1.alloc (.cells #[.slice (some ⟨w.heap.size, 0, none⟩) n n] 65)) w1.heap.size w.heap.size (List.replicate n 0) := by
    obtain ⟨_, rest, hr⟩ := hrow
    refine ⟨by omega, ⟨n, by simp, by rw [List.length_replicate]; exact heap_alloc_new w1 _⟩, ⟨rest, ?_⟩, isBytes_zero n, by simpa using h1⟩
    rw [heap_alloc_old w1 _ hl, hr, cells_zero]
  have HM := bl.hid hm
  clear hm hown hgr hrow
  go_wp2
  go_ret2
  exact ⟨_, _, rfl, hb.size, Nat.le_refl _, HM.out, hb.alloc hb.size _⟩
theorem rnew_no (n : Int) (w : World) (h : n < 16 ∨ 65536 < n) : Calls Try.prog 22 #[.int .i64 n] w fun e w' => e = .returned (.tuple #[.pointer none, .int .i64 2]) ∧ w = w' := by
  by_cases h1 : n < 16
  · clear h
    go_enter Try.func22, Try.ntmps22
    go_wp2
    go_ret2
    exact ⟨rfl, rfl⟩
  · have h2 : 65536 < n := by omega
    clear h
    go_enter Try.func22, Try.ntmps22
    go_wp2
    go_ret2
    exact ⟨rfl, rfl⟩

theorem rfits_any (p g L cap : Nat) (l : List Int) (at' n : Int) (w : World) (hc : w.cell? ⟨p, 0, none⟩ = some (.slice (some ⟨g, 0, none⟩) l.length cap)) (hL : l.length ≤ 65536) (a0 : 0 ≤ at') (a1 : at' < 18446744073709551616) (n1 : n < 9223372036854775808) :
    Calls Try.prog 48 #[.pointer (some ⟨p, 0, none⟩), .int .u64 at', .int .i64 n] w fun e w' => e = .returned (.bool (pl.fit l at' n)) ∧ w = w' := by
  by_cases h : 16 ≤ at' ∧ 0 ≤ n ∧ at' + n ≤ l.length
  · obtain ⟨h1, h2, h3⟩ := h
    rw [show pl.fit l at' n = true from decide_eq_true ⟨h1, h2, h3⟩]
    go_enter Try.func48, Try.ntmps48
    go_wp2
    all_goals (go_ret; exact ⟨bl.ret1 (bl.bool_eq (by simp; omega)), rfl⟩)
  · rw [show pl.fit l at' n = false from decide_eq_false h]
    by_cases n0 : n < 0
    · clear h
      go_enter Try.func48, Try.ntmps48
      go_wp2
      all_goals (go_ret; exact ⟨rfl, rfl⟩)
    · by_cases n2 : (l.length : Int) < n
      · have n3 : 0 ≤ n := by omega
        clear h n0
        go_enter Try.func48, Try.ntmps48
        go_wp2
        all_goals (go_ret; exact ⟨rfl, rfl⟩)
      · by_cases a2 : at' < 16
        · have n3 : 0 ≤ n := by omega
          have n4 : n ≤ (l.length : Int) := by omega
          clear h n0 n2
          go_enter Try.func48, Try.ntmps48
          go_wp2
          all_goals (go_ret; exact ⟨rfl, rfl⟩)
        · have n3 : 0 ≤ n := by omega
          have n4 : n ≤ (l.length : Int) := by omega
          have n5 : (l.length : Int) - n < at' := by omega
          have n6 : 16 ≤ at' := by omega
          clear h n0 n2 a2
          go_enter Try.func48, Try.ntmps48
          go_wp2
          all_goals (go_ret; exact ⟨bl.ret1 (bl.bool_eq (by simp; omega)), rfl⟩)
set_option maxHeartbeats 400000 in
theorem rload_ok (p g at' n : Nat) (l : List Int) (w : World) (h : IsRef w p g l) (hn : n = 1 ∨ n = 2 ∨ n = 4 ∨ n = 8) (a0 : 16 ≤ at') (a1 : at' + n ≤ l.length) :
    Calls Try.prog 36 #[.pointer (some ⟨p, 0, none⟩), .int .u64 at', .int .i64 n] w fun e w' => e = .returned (.tuple #[.int .u64 (wd.leV ((l.drop at').take n)), .int .i64 0]) ∧ w = w' := by
  obtain ⟨cap, hcap, hc⟩ := h.cell
  have hR := h.rd at' n a1
  have hL := h.size
  have hn8 : n ≤ 8 := by omega
  have n0 : 0 < n := by omega
  have HS : Hid (pl.sizB n = true) := bl.hid (decide_eq_true (by omega))
  have HF : Hid (pl.fit l at' n = true) := bl.hid (decide_eq_true (by omega))
  obtain ⟨bs, hbs⟩ : ∃ bs, (l.drop at').take n = bs := ⟨_, rfl⟩
  rw [hbs] at hR ⊢
  obtain ⟨h1, hb, h3⟩ := hR
  obtain ⟨b', off', e', hcc⟩ := h3.resolve_left (by omega)
  simp only [Option.some.injEq, Addr.mk.injEq] at e'
  obtain ⟨rfl, rfl, -⟩ := e'
  have hc' := bl.hid hcc
  have hb' := bl.hid hb
  have h1' := bl.hid h1
  clear hcc hb h1 h hbs hn h3
  go_enter Try.func36, Try.ntmps36
  go_wp2_with fail
  refine (rsized_any n _).mono ?_
  rw [HS.out]
  rintro e w' ⟨rfl, rfl⟩
  go_wp2_with fail
  refine (rfits_any p g 0 cap l at' n _ hc hL (by omega) (by omega) (by omega)).mono ?_
  rw [HF.out]
  rintro e w' ⟨rfl, rfl⟩
  go_wp2
  go_loop [8, 9] (fun x i => ∃ k : Nat, k ≤ n ∧ i = .int .i64 ((k : Int) - 1) ∧ x = .int .u64 (wd.leV (bs.drop k))) (fun _ i => (intOf i + 1).toNat)
  case atStart => exact ⟨n, by omega, rfl, bl.int_eq (by rw [List.drop_of_length_le (by have := h1'.out; omega)]; rfl)⟩
  case round =>
    obtain ⟨k, hk, hi, rfl⟩ := hrel
    rcases k with _ | j
    · subst hi
      go_wp2
      go_ret2
      exact ⟨rfl, rfl⟩
    · rw [show ((j + 1 : Nat) : Int) - 1 = (j : Int) by omega] at hi
      subst hi
      have hj : j ≤ n - 1 := by omega
      have hbl := leV_bd8 (bs.drop j) (wd.isBytes_drop hb'.out j) (by have := h1'.out; rw [List.length_drop]; omega)
      have hXb := leV_bd8 (bs.drop (j + 1)) (wd.isBytes_drop hb'.out (j + 1)) (by have := h1'.out; rw [List.length_drop]; omega)
      obtain ⟨d, hdd⟩ : ∃ d, bs.getD j 0 = d := ⟨_, rfl⟩
      have hcell : w.cell? ⟨g, at' + j, none⟩ = some (.int .u8 d) := by rw [← hdd]; exact hc'.out j (by omega)
      have hnx : wd.leV (bs.drop j) = d + 256 * wd.leV (bs.drop (j + 1)) := by rw [← hdd]; exact wd.leV_drop bs j (by have := h1'.out; omega)
      have d0 : 0 ≤ d := by rw [← hdd]; exact (wd.isBytes_getD hb'.out j).1
      have d1 : d < 256 := by rw [← hdd]; exact (wd.isBytes_getD hb'.out j).2
      have HN := bl.hid hnx
      obtain ⟨X, hX⟩ : ∃ X, wd.leV (bs.drop (j + 1)) = X := ⟨_, rfl⟩
      rw [hX] at hXb hnx
      have HX := bl.hid hX
      have x0 : 0 ≤ X := hXb.1
      have x1 : 256 * X + d < 18446744073709551616 := by omega
      have x2 : X < 18446744073709551616 := hXb.2
      rw [hX]
      clear hX hnx hdd hbl hXb hk
      go_wp2
      go_round
      case rel => first | exact ⟨j, by omega, bl.int_eq (by omega), bl.int_eq (by rw [HN.out, HX.out]; omega)⟩ | ((repeat apply Exists.intro); refine ⟨⟨j, by omega, bl.int_eq (by omega), bl.int_eq (by rw [HN.out, HX.out]; omega)⟩, ?_⟩; and_intros <;> rfl)
      case measure => simp [intOf]; try omega
theorem rload_any (p g : Nat) (at' n : Int) (l : List Int) (w : World) (h : IsRef w p g l) (a0 : 0 ≤ at') (a1 : at' < 18446744073709551616) :
    Calls Try.prog 36 #[.pointer (some ⟨p, 0, none⟩), .int .u64 at', .int .i64 n] w fun e w' => e = .returned (.tuple #[.int .u64 (pl.ldV l at' n), .int .i64 (pl.ldE l at' n)]) ∧ w = w' := by
  by_cases hn : n = 1 ∨ n = 2 ∨ n = 4 ∨ n = 8
  · have hs : pl.sizB n = true := decide_eq_true hn
    obtain ⟨k, rfl⟩ : ∃ k : Nat, n = k := ⟨n.toNat, by omega⟩
    by_cases hf : 16 ≤ at' ∧ 0 ≤ (k : Int) ∧ at' + k ≤ l.length
    · have hff : pl.fit l at' k = true := decide_eq_true hf
      obtain ⟨b, rfl⟩ : ∃ b : Nat, at' = b := ⟨at'.toNat, by omega⟩
      rw [show pl.ldV l b k = wd.leV ((l.drop b).take k) by simp [pl.ldV, hs, hff], show pl.ldE l b k = 0 by simp [pl.ldE, hs, hff]]
      exact rload_ok p g b k l w h (by omega) (by omega) (by omega)
    · have hff : pl.fit l at' k = false := decide_eq_false hf
      rw [show pl.ldV l at' k = 0 by simp [pl.ldV, hff], show pl.ldE l at' k = 15 by simp [pl.ldE, hs, hff]]
      obtain ⟨cap, hcap, hc⟩ := h.cell
      have hL := h.size
      have HS := bl.hid hs
      have HF := bl.hid hff
      have hk8 : k ≤ 8 := by omega
      clear h hs hff hf hn
      go_enter Try.func36, Try.ntmps36
      go_wp2_with fail
      refine (rsized_any k _).mono ?_
      rw [HS.out]
      rintro e w' ⟨rfl, rfl⟩
      go_wp2_with fail
      refine (rfits_any p g 0 cap l at' k _ hc hL a0 a1 (by omega)).mono ?_
      rw [HF.out]
      rintro e w' ⟨rfl, rfl⟩
      go_wp2
      go_ret2
      exact ⟨rfl, rfl⟩
  · have hs : pl.sizB n = false := decide_eq_false hn
    rw [show pl.ldV l at' n = 0 by simp [pl.ldV, hs], show pl.ldE l at' n = 2 by simp [pl.ldE, hs]]
    have HS := bl.hid hs
    clear hs hn
    go_enter Try.func36, Try.ntmps36
    go_wp2_with fail
    refine (rsized_any n _).mono ?_
    rw [HS.out]
    rintro e w' ⟨rfl, rfl⟩
    go_wp2
    go_ret2
    exact ⟨rfl, rfl⟩
end Go.Proofs.Ytkohmoekomegnaa
