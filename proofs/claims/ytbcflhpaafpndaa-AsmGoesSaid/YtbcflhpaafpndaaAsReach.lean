/- at, reach: where a label's line stands; to which place a line's words go. -/
import Derived.Test.YtbcflhpaafpndaaAsShort
namespace Go.Proofs.Ytbcflhpaafpndaa
open Go.RowKit
set_option linter.unusedVariables false
set_option maxRecDepth 100000 in
set_option maxHeartbeats 1600000 in
theorem at_any (a b : Option Addr) (n m c d : Nat) (ls : Nat → kt.Ln) (f : Nat → Int) (x : Int) (j : Nat) (w : World) (hn : n ≤ 4000) (hl : kt.Lines w a n ls) (hp : NumsAt .i64 w b m f) (hm : n < m) (hm2 : m ≤ 4001) (hj : al.labelAt ls n x j) (hf : ∀ i, i < m → -100000 ≤ f i ∧ f i ≤ 100000) :
    Calls Try.prog 19 #[.slice a n c, .slice b m d, .int .i64 x] w fun e w' => e = .returned (.int .i64 (f j)) ∧ w' = w := by
  have HL := bl.hid hl
  have HJ := bl.hid hj
  have HF := bl.hid hf
  have hjn := hj.1
  obtain ⟨gb, ob, rfl, hpc⟩ : ∃ gb ob, b = some ⟨gb, ob, none⟩ ∧ ∀ i, i < m → w.cell? ⟨gb, ob + i, none⟩ = some (.int .i64 (f i)) := by
    rcases hp with h | h
    · omega
    · exact h
  have HP := bl.hid hpc
  clear hl hp hj hpc hf
  go_enter Try.func19, Try.ntmps19
  go_wp2
  go_loopw [7] (fun v wr => ∃ k : Nat, k ≤ j ∧ v = .int .i64 k ∧ wr = w) (fun v _ => n - (intOf v).toNat)
  case atStart => exact ⟨0, by omega, rfl, rfl⟩
  case round =>
    obtain ⟨k, hk, rfl, rfl⟩ := hrel
    have hat : ∃ b off, a = some ⟨b, off, none⟩ ∧ kt.LnAt wr b (off + k * 7) (ls k) := by
      rcases HL.out.at' with h | ⟨b, off, e, h⟩
      · omega
      · exact ⟨b, off, e, h k (by omega)⟩
    obtain ⟨b, off, rfl, hla⟩ := hat
    have l0 := hla.c0
    have l1 := hla.c1
    have p0 := HP.out k (by omega)
    obtain ⟨kd, hkd⟩ : ∃ kd, (ls k).kind = kd := ⟨_, rfl⟩
    obtain ⟨lb, hlb⟩ : ∃ lb, (ls k).label = lb := ⟨_, rfl⟩
    obtain ⟨y, hy⟩ : ∃ y, f k = y := ⟨_, rfl⟩
    rw [hkd] at l0
    rw [hlb] at l1
    rw [hy] at p0
    have hkn : k < n := by omega
    by_cases hkj : k = j
    · have h1 : kd = 1 := by rw [← hkd, hkj]; exact HJ.out.2.1
      have h2 : lb = x := by rw [← hlb, hkj]; exact HJ.out.2.2.1
      subst h1 h2
      have HY : Hid (f j = y) := bl.hid (by rw [← hkj]; exact hy)
      clear hla hkd hlb hy hkj
      go_wp2
      go_ret
      exact ⟨by rw [HY.out]; rfl, rfl⟩
    · have hno : ¬ (kd = 1 ∧ lb = x) := fun h => hkj (HJ.out.2.2.2 k hkn (hkd.trans h.1) (hlb.trans h.2))
      by_cases h1 : kd = 1
      · subst h1
        have h2 : (lb == x) = false := by
          have : lb ≠ x := fun h => hno ⟨rfl, h⟩
          simpa using this
        clear hla hkd hlb hy hno p0
        go_wp2
        exact ⟨⟨k + 1, by omega, by go_num, by first | trivial | rfl⟩, by simp [intOf]; omega⟩
      · have h1' : (kd == 1) = false := by simpa using h1
        clear hla hkd hlb hy hno p0 h1 l1
        go_wp2
        exact ⟨⟨k + 1, by omega, by go_num, by first | trivial | rfl⟩, by simp [intOf]; omega⟩
theorem dec_of (op rd rs1 rs2 im : Int) (h : rv.chkI op rd rs1 rs2 im = 0) (w : World) : Calls Try.prog 9 #[.int .u32 (rv.encI op rd rs1 rs2 im)] w fun e w' => e = .returned (.tuple #[.agg #[.int .i64 op, .int .i64 rd, .int .i64 rs1, .int .i64 rs2, .int .i64 im], .int .i64 0]) ∧ Below w.heap.size w w' := by
  obtain ⟨⟨A0, A1⟩, A2, A3⟩ := rv.dec_back op rd rs1 rs2 im h
  have := decode_any (rv.encI op rd rs1 rs2 im) A0 A1 w
  rw [A2, A3] at this
  exact this
set_option maxRecDepth 100000 in
set_option maxHeartbeats 1600000 in
theorem reach_one (g n c k : Nat) (q op rd rs1 rs2 : Int) (w : World) (hk : k < n) (hn : n ≤ 10000) (hq : -4000 ≤ q ∧ q ≤ 4000) (hg : g < w.heap.size) (hc : w.cell? ⟨g, k, none⟩ = some (.int .u32 (rv.encI op rd rs1 rs2 (4 * q)))) (hchk : rv.chkI op rd rs1 rs2 (4 * q) = 0) :
    Calls Try.prog 21 #[.slice (some ⟨g, 0, none⟩) n c, .int .i64 k, .int .i64 1, .agg #[.int .i64 op, .int .i64 rd, .int .i64 rs1, .int .i64 rs2, .int .i64 0]] w fun e w' => e = .returned (.int .i64 (k + q)) ∧ Below w.heap.size w w' := by
  have HD := bl.hid (dec_of op rd rs1 rs2 (4 * q) hchk)
  obtain ⟨V, hV⟩ : ∃ V, rv.encI op rd rs1 rs2 (4 * q) = V := ⟨_, rfl⟩
  rw [hV] at hc HD
  obtain ⟨D, hD⟩ : ∃ D, 4 * q = D := ⟨_, rfl⟩
  rw [hD] at HD
  have hD1 : D.tdiv 4 = q := by rw [← hD]; exact Int.mul_tdiv_cancel_left q (by omega)
  obtain ⟨q0, q1⟩ := hq
  have d0 : -16000 ≤ D := by omega
  have d1 : D ≤ 16000 := by omega
  clear hchk hV hD
  go_enter Try.func21, Try.ntmps21
  go_wp2_with fail
  refine (HD.out _).mono ?_
  rintro e w1 ⟨rfl, hb⟩
  have HB := bl.hid hb
  have s1 : w.heap.size < w1.heap.size := by have := hb.size; rw [World.size_alloc] at this; exact this
  have hx := (hb.block w.heap.size (by rw [World.size_alloc]; omega)).trans (heap_alloc_new w (.cells #[.int .i64 op, .int .i64 rd, .int .i64 rs1, .int .i64 rs2, .int .i64 0] 29))
  have x0 : w1.cell? ⟨w.heap.size, 0, none⟩ = some (.int .i64 op) := (cell_of_row _ _ _ _ _ _ hx).trans rfl
  have x1 : w1.cell? ⟨w.heap.size, 1, none⟩ = some (.int .i64 rd) := (cell_of_row _ _ _ _ _ _ hx).trans rfl
  have x2 : w1.cell? ⟨w.heap.size, 2, none⟩ = some (.int .i64 rs1) := (cell_of_row _ _ _ _ _ _ hx).trans rfl
  have x3 : w1.cell? ⟨w.heap.size, 3, none⟩ = some (.int .i64 rs2) := (cell_of_row _ _ _ _ _ _ hx).trans rfl
  have x4 : w1.cell? ⟨w.heap.size, 4, none⟩ = some (.int .i64 0) := (cell_of_row _ _ _ _ _ _ hx).trans rfl
  clear hb hx hc
  have hW1 : Hid (Below w.heap.size w w1) := bl.hid (((Below.refl _ _).alloc (Nat.le_refl _) _).trans (HB.out.mono (by rw [World.size_alloc]; omega)))
  go_wp2
  go_ret
  exact ⟨rfl, (hW1.out.alloc (by omega) _).alloc (by rw [World.size_alloc]; omega) _⟩
set_option maxRecDepth 100000 in
set_option maxHeartbeats 1600000 in
theorem reach_two (g n c k : Nat) (q op rd rs1 rs2 iv : Int) (w : World) (hk : k + 1 < n) (hn : n ≤ 10000) (hq : -4000 ≤ q ∧ q ≤ 4000) (hg : g < w.heap.size) (hc : w.cell? ⟨g, k, none⟩ = some (.int .u32 (rv.encI iv rd rs1 rs2 8))) (hc2 : w.cell? ⟨g, k + 1, none⟩ = some (.int .u32 (rv.encI 3 0 0 0 (4 * q - 4))))
    (hchk : rv.chkI iv rd rs1 rs2 8 = 0) (hchk2 : rv.chkI 3 0 0 0 (4 * q - 4) = 0) (h1 : -9223372036854775808 ≤ op ∧ op ≤ 9223372036854775807) (h2 : -9223372036854775808 ≤ iv ∧ iv ≤ 9223372036854775807) (hi1 : al.inv op = iv) (hi2 : al.inv iv = op) :
    Calls Try.prog 21 #[.slice (some ⟨g, 0, none⟩) n c, .int .i64 k, .int .i64 2, .agg #[.int .i64 op, .int .i64 rd, .int .i64 rs1, .int .i64 rs2, .int .i64 0]] w fun e w' => e = .returned (.int .i64 (k + q)) ∧ Below w.heap.size w w' := by
  have HD := bl.hid (dec_of iv rd rs1 rs2 8 hchk)
  have HD2 := bl.hid (dec_of 3 0 0 0 (4 * q - 4) hchk2)
  have HI1 := bl.hid (fun w => inverse_any op h1.1 h1.2 w)
  have HI2 := bl.hid (fun w => inverse_any iv h2.1 h2.2 w)
  rw [hi1] at HI1
  rw [hi2] at HI2
  obtain ⟨V, hV⟩ : ∃ V, rv.encI iv rd rs1 rs2 8 = V := ⟨_, rfl⟩
  rw [hV] at hc HD
  obtain ⟨D, hD⟩ : ∃ D, 4 * q - 4 = D := ⟨_, rfl⟩
  rw [hD] at HD2 hc2
  obtain ⟨V2, hV2⟩ : ∃ V, rv.encI 3 0 0 0 D = V := ⟨_, rfl⟩
  rw [hV2] at hc2 HD2
  have hD1 : D.tdiv 4 = q - 1 := by rw [← hD, show 4 * q - 4 = 4 * (q - 1) by omega]; exact Int.mul_tdiv_cancel_left _ (by omega)
  obtain ⟨q0, q1⟩ := hq
  have d0 : -16004 ≤ D := by omega
  have d1 : D ≤ 16000 := by omega
  clear hchk hchk2 hV hV2 hD hi1 hi2 h1 h2
  go_enter Try.func21, Try.ntmps21
  go_wp2_with fail
  refine (HD.out _).mono ?_
  rintro e w1 ⟨rfl, hb⟩
  have HB := bl.hid hb
  have s1 : w.heap.size < w1.heap.size := by have := hb.size; rw [World.size_alloc] at this; exact this
  have hx := (hb.block w.heap.size (by rw [World.size_alloc]; omega)).trans (heap_alloc_new w (.cells #[.int .i64 op, .int .i64 rd, .int .i64 rs1, .int .i64 rs2, .int .i64 0] 29))
  have hc1 : w1.cell? ⟨g, k + 1, none⟩ = some (.int .u32 V2) := (hb.cell (p := ⟨g, k + 1, none⟩) (by show g < _; rw [World.size_alloc]; omega)).trans ((World.cell?_of_block (w := w) (a := ⟨g, k + 1, none⟩) (Below.heap_alloc _ _ _ hg)).trans hc2)
  have hg1 : g < w1.heap.size := by omega
  have HX := bl.hid hx
  have HW1 : Hid (Below w.heap.size w w1) := bl.hid (((Below.refl _ _).alloc (Nat.le_refl _) _).trans (hb.mono (by rw [World.size_alloc]; omega)))
  clear hb hc hc2 hx
  go_wp2_with fail
  refine (HD2.out _).mono ?_
  rintro e w2 ⟨rfl, hb⟩
  have s2 : w1.heap.size < w2.heap.size := by have := hb.size; rw [World.size_alloc] at this; exact this
  have hx := (hb.block w.heap.size (by rw [World.size_alloc]; omega)).trans ((Below.heap_alloc _ _ _ s1).trans HX.out)
  have hy := (hb.block w1.heap.size (by rw [World.size_alloc]; omega)).trans (heap_alloc_new w1 (.cells #[.int .i64 iv, .int .i64 rd, .int .i64 rs1, .int .i64 rs2, .int .i64 8] 29))
  have x0 : w2.cell? ⟨w.heap.size, 0, none⟩ = some (.int .i64 op) := (cell_of_row _ _ _ _ _ _ hx).trans rfl
  have x1 : w2.cell? ⟨w.heap.size, 1, none⟩ = some (.int .i64 rd) := (cell_of_row _ _ _ _ _ _ hx).trans rfl
  have x2 : w2.cell? ⟨w.heap.size, 2, none⟩ = some (.int .i64 rs1) := (cell_of_row _ _ _ _ _ _ hx).trans rfl
  have x3 : w2.cell? ⟨w.heap.size, 3, none⟩ = some (.int .i64 rs2) := (cell_of_row _ _ _ _ _ _ hx).trans rfl
  have x4 : w2.cell? ⟨w.heap.size, 4, none⟩ = some (.int .i64 0) := (cell_of_row _ _ _ _ _ _ hx).trans rfl
  have y0 : w2.cell? ⟨w1.heap.size, 0, none⟩ = some (.int .i64 iv) := (cell_of_row _ _ _ _ _ _ hy).trans rfl
  have y1 : w2.cell? ⟨w1.heap.size, 1, none⟩ = some (.int .i64 rd) := (cell_of_row _ _ _ _ _ _ hy).trans rfl
  have y2 : w2.cell? ⟨w1.heap.size, 2, none⟩ = some (.int .i64 rs1) := (cell_of_row _ _ _ _ _ _ hy).trans rfl
  have y3 : w2.cell? ⟨w1.heap.size, 3, none⟩ = some (.int .i64 rs2) := (cell_of_row _ _ _ _ _ _ hy).trans rfl
  have y4 : w2.cell? ⟨w1.heap.size, 4, none⟩ = some (.int .i64 8) := (cell_of_row _ _ _ _ _ _ hy).trans rfl
  have l1 : w.heap.size < w2.heap.size := by omega
  have HW2 : Hid (Below w.heap.size w w2) := bl.hid ((HW1.out.alloc (by omega) _).trans (hb.mono (by rw [World.size_alloc]; omega)))
  clear hb hx hy hc1 HX HB
  go_wp2_with fail
  refine (HI1.out _).mono ?_
  rintro e w3 ⟨rfl, rfl⟩
  go_wp2
  go_quiet ((go_at_call 13; exact Calls.quiet_of_same ((HI2.out _).mono (fun e w' h => ⟨h.1, h.2.symm⟩))))
  go_wp2
  go_ret
  exact ⟨bl.ret1 (bl.int_eq (by omega)), ((HW2.out.alloc (by omega) _).alloc (by rw [World.size_alloc]; omega) _).drewN' nq⟩
end Go.Proofs.Ytbcflhpaafpndaa
