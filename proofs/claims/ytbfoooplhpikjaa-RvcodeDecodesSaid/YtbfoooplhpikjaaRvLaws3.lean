/- RvcodeFields and RvcodeNames, walked. -/
import Derived.Test.YtbfoooplhpikjaaRvLaws2
import Derived.Outline
namespace Go.Proofs.Ytbfoooplhpikjaa
open Go.RowKit
set_option linter.unusedVariables false
namespace rv
theorem enc_inj (a0 a1 a2 a3 a4 b0 b1 b2 b3 b4 : Int) (ha : chkI a0 a1 a2 a3 a4 = 0) (hb : chkI b0 b1 b2 b3 b4 = 0) (h : encI a0 a1 a2 a3 a4 = encI b0 b1 b2 b3 b4) : a0 = b0 ∧ a1 = b1 ∧ a2 = b2 ∧ a3 = b3 ∧ a4 = b4 := by
  have e1 := (dec_back _ _ _ _ _ ha).2.1
  have e2 := (dec_back _ _ _ _ _ hb).2.1
  rw [h, e2] at e1
  simp at e1
  omega
theorem names_ne : ∀ j, j < 64 → ∀ k, k < 64 → 1 ≤ j → 1 ≤ k → (row j).name.data.toList = (row k).name.data.toList → j = k := by decide +kernel
theorem form_one : ∀ k, k < 64 → 1 ≤ k → (row k).form.size = 1 ∧ (row k).form.toList ≠ [] := by decide +kernel
end rv
set_option maxHeartbeats 1600000 in
theorem fields_any (a0 a1 a2 a3 a4 b0 b1 b2 b3 b4 : Int) (w : World) : Calls Try.prog 4 #[.agg #[.int .i64 a0, .int .i64 a1, .int .i64 a2, .int .i64 a3, .int .i64 a4], .agg #[.int .i64 b0, .int .i64 b1, .int .i64 b2, .int .i64 b3, .int .i64 b4]] w fun e w' => e = .returned (.bool true) ∧ Below w.heap.size w w' := by
  have HE := bl.hid (fun w => encode_any a0 a1 a2 a3 a4 w)
  have HF := bl.hid (fun w => encode_any b0 b1 b2 b3 b4 w)
  have HI := bl.hid (rv.enc_inj a0 a1 a2 a3 a4 b0 b1 b2 b3 b4)
  have HSame : Hid (a0 = b0 ∧ a1 = b1 ∧ a2 = b2 ∧ a3 = b3 ∧ a4 = b4 → rv.encI a0 a1 a2 a3 a4 = rv.encI b0 b1 b2 b3 b4) := bl.hid (by rintro ⟨rfl, rfl, rfl, rfl, rfl⟩; rfl)
  obtain ⟨p, hp⟩ : ∃ z, rv.chkI a0 a1 a2 a3 a4 = z := ⟨_, rfl⟩
  obtain ⟨q, hq⟩ : ∃ z, rv.chkI b0 b1 b2 b3 b4 = z := ⟨_, rfl⟩
  obtain ⟨x, hx⟩ : ∃ z, rv.encI a0 a1 a2 a3 a4 = z := ⟨_, rfl⟩
  obtain ⟨y, hy⟩ : ∃ z, rv.encI b0 b1 b2 b3 b4 = z := ⟨_, rfl⟩
  rw [hp, hx] at HE
  rw [hq, hy] at HF
  rw [hp, hq, hx, hy] at HI
  rw [hx, hy] at HSame
  clear hp hq hx hy
  by_cases hp : p = 0
  · subst hp
    by_cases hq : q = 0
    · subst hq
      by_cases he : a0 = b0 ∧ a1 = b1 ∧ a2 = b2 ∧ a3 = b3 ∧ a4 = b4
      · obtain rfl := HSame.out he
        obtain ⟨rfl, rfl, rfl, rfl, rfl⟩ := he
        go_enter Try.func4, Try.ntmps4
        go_wp2_with fail
        refine (awake_any _).mono ?_
        rintro e w1 ⟨rfl, hb⟩
        have hsz1 := hb.size
        rw [World.size_alloc, World.size_alloc] at hsz1
        obtain ⟨q0_1, q1_1, -, -⟩ := two_boxes hb
        have x_1 := bl.hid q0_1
        clear q0_1
        have kx_1 : w.heap.size < w1.heap.size := by omega
        have y_1 := bl.hid q1_1
        clear q1_1
        have ky_1 : w.heap.size + 1 < w1.heap.size := by omega
        have HB1 := bl.hid (kt.below_call (kt.below_more' (kt.below_more' (Below.refl _ _) _) _) hb)
        clear hb
        obtain ⟨c0, c1, c2, c3, c4⟩ := RvAt.of_box x_1.out
        go_wp2_with fail
        refine (HE.out _).mono ?_
        rintro e w2 ⟨rfl, hb⟩
        have hsz2 := hb.size
        have x_2 := bl.hid ((hb.block _ (by omega)).trans x_1.out)
        have kx_2 : w.heap.size < w2.heap.size := by omega
        have y_2 := bl.hid ((hb.block _ (by omega)).trans y_1.out)
        have ky_2 : w.heap.size + 1 < w2.heap.size := by omega
        have HB2 := bl.hid (kt.below_call HB1.out hb)
        clear hb x_1 y_1
        clear c0 c1 c2 c3 c4
        obtain ⟨d0, d1, d2, d3, d4⟩ := RvAt.of_box y_2.out
        go_wp2_with fail
        refine (HF.out _).mono ?_
        rintro e w3 ⟨rfl, hb⟩
        have hsz3 := hb.size
        have x_3 := bl.hid ((hb.block _ (by omega)).trans x_2.out)
        have kx_3 : w.heap.size < w3.heap.size := by omega
        have y_3 := bl.hid ((hb.block _ (by omega)).trans y_2.out)
        have ky_3 : w.heap.size + 1 < w3.heap.size := by omega
        have HB3 := bl.hid (kt.below_call HB2.out hb)
        clear hb x_2 y_2
        clear d0 d1 d2 d3 d4
        obtain ⟨c0, c1, c2, c3, c4⟩ := RvAt.of_box x_3.out
        obtain ⟨d0, d1, d2, d3, d4⟩ := RvAt.of_box y_3.out
        go_wp2
        skip
        all_goals
          go_ret
          exact ⟨rfl, HB3.out⟩
      · have hxy : (x == y) = false := by cases h : x == y with | false => rfl | true => exact absurd (HI.out rfl rfl (by simpa using h)) he
        have HNe := bl.hid he
        clear he
        go_enter Try.func4, Try.ntmps4
        go_wp2_with fail
        refine (awake_any _).mono ?_
        rintro e w1 ⟨rfl, hb⟩
        have hsz1 := hb.size
        rw [World.size_alloc, World.size_alloc] at hsz1
        obtain ⟨q0_1, q1_1, -, -⟩ := two_boxes hb
        have x_1 := bl.hid q0_1
        clear q0_1
        have kx_1 : w.heap.size < w1.heap.size := by omega
        have y_1 := bl.hid q1_1
        clear q1_1
        have ky_1 : w.heap.size + 1 < w1.heap.size := by omega
        have HB1 := bl.hid (kt.below_call (kt.below_more' (kt.below_more' (Below.refl _ _) _) _) hb)
        clear hb
        obtain ⟨c0, c1, c2, c3, c4⟩ := RvAt.of_box x_1.out
        go_wp2_with fail
        refine (HE.out _).mono ?_
        rintro e w2 ⟨rfl, hb⟩
        have hsz2 := hb.size
        have x_2 := bl.hid ((hb.block _ (by omega)).trans x_1.out)
        have kx_2 : w.heap.size < w2.heap.size := by omega
        have y_2 := bl.hid ((hb.block _ (by omega)).trans y_1.out)
        have ky_2 : w.heap.size + 1 < w2.heap.size := by omega
        have HB2 := bl.hid (kt.below_call HB1.out hb)
        clear hb x_1 y_1
        clear c0 c1 c2 c3 c4
        obtain ⟨d0, d1, d2, d3, d4⟩ := RvAt.of_box y_2.out
        go_wp2_with fail
        refine (HF.out _).mono ?_
        rintro e w3 ⟨rfl, hb⟩
        have hsz3 := hb.size
        have x_3 := bl.hid ((hb.block _ (by omega)).trans x_2.out)
        have kx_3 : w.heap.size < w3.heap.size := by omega
        have y_3 := bl.hid ((hb.block _ (by omega)).trans y_2.out)
        have ky_3 : w.heap.size + 1 < w3.heap.size := by omega
        have HB3 := bl.hid (kt.below_call HB2.out hb)
        clear hb x_2 y_2
        clear d0 d1 d2 d3 d4
        obtain ⟨c0, c1, c2, c3, c4⟩ := RvAt.of_box x_3.out
        obtain ⟨d0, d1, d2, d3, d4⟩ := RvAt.of_box y_3.out
        go_wp2
        all_goals first | (exact absurd ⟨‹_›, ‹_›, ‹_›, ‹_›, ‹_›⟩ HNe.out) | skip
        all_goals
          go_ret
          exact ⟨rfl, HB3.out⟩
    · have hq1 : (q != 0) = true := by simpa using hq
      clear hq
      go_enter Try.func4, Try.ntmps4
      go_wp2_with fail
      refine (awake_any _).mono ?_
      rintro e w1 ⟨rfl, hb⟩
      have hsz1 := hb.size
      rw [World.size_alloc, World.size_alloc] at hsz1
      obtain ⟨q0_1, q1_1, -, -⟩ := two_boxes hb
      have x_1 := bl.hid q0_1
      clear q0_1
      have kx_1 : w.heap.size < w1.heap.size := by omega
      have y_1 := bl.hid q1_1
      clear q1_1
      have ky_1 : w.heap.size + 1 < w1.heap.size := by omega
      have HB1 := bl.hid (kt.below_call (kt.below_more' (kt.below_more' (Below.refl _ _) _) _) hb)
      clear hb
      obtain ⟨c0, c1, c2, c3, c4⟩ := RvAt.of_box x_1.out
      go_wp2_with fail
      refine (HE.out _).mono ?_
      rintro e w2 ⟨rfl, hb⟩
      have hsz2 := hb.size
      have x_2 := bl.hid ((hb.block _ (by omega)).trans x_1.out)
      have kx_2 : w.heap.size < w2.heap.size := by omega
      have y_2 := bl.hid ((hb.block _ (by omega)).trans y_1.out)
      have ky_2 : w.heap.size + 1 < w2.heap.size := by omega
      have HB2 := bl.hid (kt.below_call HB1.out hb)
      clear hb x_1 y_1
      clear c0 c1 c2 c3 c4
      obtain ⟨d0, d1, d2, d3, d4⟩ := RvAt.of_box y_2.out
      go_wp2_with fail
      refine (HF.out _).mono ?_
      rintro e w3 ⟨rfl, hb⟩
      have hsz3 := hb.size
      have x_3 := bl.hid ((hb.block _ (by omega)).trans x_2.out)
      have kx_3 : w.heap.size < w3.heap.size := by omega
      have y_3 := bl.hid ((hb.block _ (by omega)).trans y_2.out)
      have ky_3 : w.heap.size + 1 < w3.heap.size := by omega
      have HB3 := bl.hid (kt.below_call HB2.out hb)
      clear hb x_2 y_2
      clear d0 d1 d2 d3 d4
      obtain ⟨c0, c1, c2, c3, c4⟩ := RvAt.of_box x_3.out
      obtain ⟨d0, d1, d2, d3, d4⟩ := RvAt.of_box y_3.out
      go_wp2
      skip
      all_goals
        go_ret
        exact ⟨rfl, HB3.out⟩
  · have hp1 : (p != 0) = true := by simpa using hp
    clear hp
    go_enter Try.func4, Try.ntmps4
    go_wp2_with fail
    refine (awake_any _).mono ?_
    rintro e w1 ⟨rfl, hb⟩
    have hsz1 := hb.size
    rw [World.size_alloc, World.size_alloc] at hsz1
    obtain ⟨q0_1, q1_1, -, -⟩ := two_boxes hb
    have x_1 := bl.hid q0_1
    clear q0_1
    have kx_1 : w.heap.size < w1.heap.size := by omega
    have y_1 := bl.hid q1_1
    clear q1_1
    have ky_1 : w.heap.size + 1 < w1.heap.size := by omega
    have HB1 := bl.hid (kt.below_call (kt.below_more' (kt.below_more' (Below.refl _ _) _) _) hb)
    clear hb
    obtain ⟨c0, c1, c2, c3, c4⟩ := RvAt.of_box x_1.out
    go_wp2_with fail
    refine (HE.out _).mono ?_
    rintro e w2 ⟨rfl, hb⟩
    have hsz2 := hb.size
    have x_2 := bl.hid ((hb.block _ (by omega)).trans x_1.out)
    have kx_2 : w.heap.size < w2.heap.size := by omega
    have y_2 := bl.hid ((hb.block _ (by omega)).trans y_1.out)
    have ky_2 : w.heap.size + 1 < w2.heap.size := by omega
    have HB2 := bl.hid (kt.below_call HB1.out hb)
    clear hb x_1 y_1
    clear c0 c1 c2 c3 c4
    obtain ⟨d0, d1, d2, d3, d4⟩ := RvAt.of_box y_2.out
    go_wp2_with fail
    refine (HF.out _).mono ?_
    rintro e w3 ⟨rfl, hb⟩
    have hsz3 := hb.size
    have x_3 := bl.hid ((hb.block _ (by omega)).trans x_2.out)
    have kx_3 : w.heap.size < w3.heap.size := by omega
    have y_3 := bl.hid ((hb.block _ (by omega)).trans y_2.out)
    have ky_3 : w.heap.size + 1 < w3.heap.size := by omega
    have HB3 := bl.hid (kt.below_call HB2.out hb)
    clear hb x_2 y_2
    clear d0 d1 d2 d3 d4
    obtain ⟨c0, c1, c2, c3, c4⟩ := RvAt.of_box x_3.out
    obtain ⟨d0, d1, d2, d3, d4⟩ := RvAt.of_box y_3.out
    go_wp2
    skip
    all_goals
      go_ret
      exact ⟨rfl, HB3.out⟩
/-- 'Pick' answers a number from 0 to n - 1. -/
def PickPost (n : Int) (w : World) (e : Ending) (w' : World) : Prop := ∃ k : Int, 0 ≤ k ∧ k < n ∧ e = .returned (.int .i64 k) ∧ w = w'
theorem pick_any (x n : Int) (w : World) (h1 : 1 ≤ n) (h2 : n ≤ 1000000) (hx0 : -9223372036854775808 ≤ x) (hx1 : x ≤ 9223372036854775807) :
    Calls Try.prog 22 #[.int .i64 x, .int .i64 n] w (PickPost n w) := by
  have b1 : -n < x.tmod n := by have := Int.lt_tmod_of_pos x (b := n) (by omega); omega
  have b2 : x.tmod n < n := Int.tmod_lt_of_pos x (by omega)
  have b3 : 0 ≤ (x.tmod n + n) % n := Int.emod_nonneg _ (by omega)
  have b4 : (x.tmod n + n) % n < n := Int.emod_lt_of_pos _ (by omega)
  go_enter Try.func22, Try.ntmps22
  go_wp2
  go_ret
  exact ⟨_, b3, b4, rfl, rfl⟩
theorem rowI_nat (k : Nat) (h1 : 1 ≤ k) (h2 : k < 64) : rv.rowI k = rv.row k := by have : rv.is k = true := decide_eq_true (by omega); simp [rv.rowI, this]
theorem list_ne {s : ByteArray} (h : s.toList ≠ []) : s.toList.isEmpty = false := by cases hq : s.toList with | nil => exact absurd hq h | cons a b => rfl
set_option maxHeartbeats 1600000 in
theorem names_any (m n : Int) (m0 : -9223372036854775808 ≤ m) (m1 : m ≤ 9223372036854775807) (n0 : -9223372036854775808 ≤ n) (n1 : n ≤ 9223372036854775807) (w : World) : Calls Try.prog 9 #[.int .i64 m, .int .i64 n] w fun e w' => e = .returned (.bool true) ∧ Below w.heap.size w w' := by
  by_cases hm : 1 ≤ m ∧ m ≤ 63
  · obtain ⟨k, rfl⟩ : ∃ k : Nat, m = k := ⟨m.toNat, by omega⟩
    obtain ⟨hm1, hm2⟩ := hm
    have hNm := fun w => name_any k w
    have hFm := fun w => form_any k w
    rw [rowI_nat k (by omega) (by omega)] at hNm hFm
    have qm := list_ne (rv.name_some k (by omega) (by omega))
    have qf := list_ne (rv.form_one k (by omega) (by omega)).2
    obtain ⟨nm, en⟩ : ∃ z, (rv.row k).name = z := ⟨_, rfl⟩
    obtain ⟨fm, ef⟩ : ∃ z, (rv.row k).form = z := ⟨_, rfl⟩
    rw [en] at hNm qm
    rw [ef] at hFm qf
    have HNm := bl.hid hNm
    have HFm := bl.hid hFm
    clear hNm hFm en ef
    go_enter Try.func9, Try.ntmps9
    go_wp2_with fail
    refine (awake_any _).mono ?_
    rintro e w1 ⟨rfl, hb⟩
    have hsz1 := hb.size
    have HB1 := bl.hid (kt.below_call (Below.refl _ _) hb)
    clear hb
    go_wp2_with fail
    refine (pick_any _ _ _ (by omega) (by omega) m0 m1).mono ?_
    rintro e w' ⟨i, i0, i1, rfl, rfl⟩
    go_wp2_with fail
    refine (pick_any _ _ _ (by omega) (by omega) n0 n1).mono ?_
    rintro e w' ⟨j, j0, j1, rfl, rfl⟩
    obtain ⟨a, rfl⟩ : ∃ a : Nat, i = a := ⟨i.toNat, by omega⟩
    obtain ⟨b, rfl⟩ : ∃ b : Nat, j = b := ⟨j.toNat, by omega⟩
    have hNa := fun w => name_any (1 + a) w
    rw [show (1 + (a : Int)) = ((1 + a : Nat) : Int) by simp, rowI_nat _ (by omega) (by omega)] at hNa
    rw [show ((1 + a : Nat) : Int) = 1 + (a : Int) by simp] at hNa
    have hNb := fun w => name_any (1 + b) w
    rw [show (1 + (b : Int)) = ((1 + b : Nat) : Int) by simp, rowI_nat _ (by omega) (by omega)] at hNb
    rw [show ((1 + b : Nat) : Int) = 1 + (b : Int) by simp] at hNb
    have hFa := fun w => form_any (1 + a) w
    rw [show (1 + (a : Int)) = ((1 + a : Nat) : Int) by simp, rowI_nat _ (by omega) (by omega)] at hFa
    rw [show ((1 + a : Nat) : Int) = 1 + (a : Int) by simp] at hFa
    have qa := list_ne (rv.name_some (1 + a) (by omega) (by omega))
    obtain ⟨f1, -⟩ := rv.form_one (1 + a) (by omega) (by omega)
    have hne := rv.names_ne (1 + a) (by omega) (1 + b) (by omega) (by omega) (by omega)
    by_cases hab : a = b
    · subst hab
      clear hne
      obtain ⟨na, ea⟩ : ∃ z, (rv.row (1 + a)).name = z := ⟨_, rfl⟩
      obtain ⟨fa, eb⟩ : ∃ z, (rv.row (1 + a)).form = z := ⟨_, rfl⟩
      rw [ea] at hNa qa
      rw [eb] at hFa f1
      rw [ea] at hNb
      clear ea eb
      have HNa := bl.hid hNa
      have HNb := bl.hid hNb
      have HFa := bl.hid hFa
      clear hNa hNb hFa
      go_wp2_with fail
      refine (HNa.out _).mono ?_
      rintro e w2 ⟨rfl, hb⟩
      have hsz2 := hb.size
      have HB2 := bl.hid (kt.below_call HB1.out hb)
      clear hb
      go_wp2_with fail
      refine (HFa.out _).mono ?_
      rintro e w3 ⟨rfl, hb⟩
      have hsz3 := hb.size
      have HB3 := bl.hid (kt.below_call HB2.out hb)
      clear hb
      go_wp2_with fail
      refine (HNa.out _).mono ?_
      rintro e w4 ⟨rfl, hb⟩
      have hsz4 := hb.size
      have HB4 := bl.hid (kt.below_call HB3.out hb)
      clear hb
      go_wp2_with fail
      refine (HNb.out _).mono ?_
      rintro e w5 ⟨rfl, hb⟩
      have hsz5 := hb.size
      have HB5 := bl.hid (kt.below_call HB4.out hb)
      clear hb
      go_wp2_with fail
      refine (HNm.out _).mono ?_
      rintro e w6 ⟨rfl, hb⟩
      have hsz6 := hb.size
      have HB6 := bl.hid (kt.below_call HB5.out hb)
      clear hb
      go_wp2_with fail
      refine (HFm.out _).mono ?_
      rintro e w7 ⟨rfl, hb⟩
      have hsz7 := hb.size
      have HB7 := bl.hid (kt.below_call HB6.out hb)
      clear hb
      go_wp2
      go_ret
      exact ⟨rfl, HB7.out⟩
    · have hxy : ((rv.row (1 + a)).name.toList == (rv.row (1 + b)).name.toList) = false := by cases h : (rv.row (1 + a)).name.toList == (rv.row (1 + b)).name.toList with | false => rfl | true => exact absurd (hne (by have := eq_of_beq h; rwa [ByteArray.toList_eq, ByteArray.toList_eq] at this)) (by omega)
      have hab2 : ((1 + (a : Int)) == (1 + (b : Int))) = false := by rw [beq_eq_false_iff_ne]; omega
      clear hne
      obtain ⟨na, ea⟩ : ∃ z, (rv.row (1 + a)).name = z := ⟨_, rfl⟩
      obtain ⟨fa, eb⟩ : ∃ z, (rv.row (1 + a)).form = z := ⟨_, rfl⟩
      obtain ⟨nb, ec⟩ : ∃ z, (rv.row (1 + b)).name = z := ⟨_, rfl⟩
      rw [ea, ec] at hxy
      rw [ec] at hNb
      rw [ea] at hNa qa
      rw [eb] at hFa f1
      clear ea eb ec
      have HNa := bl.hid hNa
      have HNb := bl.hid hNb
      have HFa := bl.hid hFa
      clear hNa hNb hFa hab
      go_wp2_with fail
      refine (HNa.out _).mono ?_
      rintro e w2 ⟨rfl, hb⟩
      have hsz2 := hb.size
      have HB2 := bl.hid (kt.below_call HB1.out hb)
      clear hb
      go_wp2_with fail
      refine (HFa.out _).mono ?_
      rintro e w3 ⟨rfl, hb⟩
      have hsz3 := hb.size
      have HB3 := bl.hid (kt.below_call HB2.out hb)
      clear hb
      go_wp2_with fail
      refine (HNa.out _).mono ?_
      rintro e w4 ⟨rfl, hb⟩
      have hsz4 := hb.size
      have HB4 := bl.hid (kt.below_call HB3.out hb)
      clear hb
      go_wp2_with fail
      refine (HNb.out _).mono ?_
      rintro e w5 ⟨rfl, hb⟩
      have hsz5 := hb.size
      have HB5 := bl.hid (kt.below_call HB4.out hb)
      clear hb
      go_wp2_with fail
      refine (HNm.out _).mono ?_
      rintro e w6 ⟨rfl, hb⟩
      have hsz6 := hb.size
      have HB6 := bl.hid (kt.below_call HB5.out hb)
      clear hb
      go_wp2_with fail
      refine (HFm.out _).mono ?_
      rintro e w7 ⟨rfl, hb⟩
      have hsz7 := hb.size
      have HB7 := bl.hid (kt.below_call HB6.out hb)
      clear hb
      go_wp2
      go_ret
      exact ⟨rfl, HB7.out⟩
  · have hr : rv.rowI m = rv.row 0 := by have : rv.is m = false := decide_eq_false (by omega); simp [rv.rowI, this]
    have hNm := fun w => name_any m w
    have hFm := fun w => form_any m w
    rw [hr] at hNm hFm
    have HNm : Hid (∀ w, Calls Try.prog 15 #[.int .i64 m] w fun e w' => e = .returned (.string ⟨#[]⟩) ∧ Below w.heap.size w w') := bl.hid hNm
    have HFm : Hid (∀ w, Calls Try.prog 19 #[.int .i64 m] w fun e w' => e = .returned (.string ⟨#[]⟩) ∧ Below w.heap.size w w') := bl.hid hFm
    have hm' : m < 1 ∨ (1 ≤ m ∧ 63 < m) := by omega
    clear hNm hFm hr hm
    rcases hm' with hm | ⟨hm0, hm⟩
    · have htriv : True := trivial
      go_enter Try.func9, Try.ntmps9
      go_wp2_with fail
      refine (awake_any _).mono ?_
      rintro e w1 ⟨rfl, hb⟩
      have hsz1 := hb.size
      have HB1 := bl.hid (kt.below_call (Below.refl _ _) hb)
      clear hb
      go_wp2_with fail
      refine (pick_any _ _ _ (by omega) (by omega) m0 m1).mono ?_
      rintro e w' ⟨i, i0, i1, rfl, rfl⟩
      go_wp2_with fail
      refine (pick_any _ _ _ (by omega) (by omega) n0 n1).mono ?_
      rintro e w' ⟨j, j0, j1, rfl, rfl⟩
      obtain ⟨a, rfl⟩ : ∃ a : Nat, i = a := ⟨i.toNat, by omega⟩
      obtain ⟨b, rfl⟩ : ∃ b : Nat, j = b := ⟨j.toNat, by omega⟩
      have hNa := fun w => name_any (1 + a) w
      rw [show (1 + (a : Int)) = ((1 + a : Nat) : Int) by simp, rowI_nat _ (by omega) (by omega)] at hNa
      rw [show ((1 + a : Nat) : Int) = 1 + (a : Int) by simp] at hNa
      have hNb := fun w => name_any (1 + b) w
      rw [show (1 + (b : Int)) = ((1 + b : Nat) : Int) by simp, rowI_nat _ (by omega) (by omega)] at hNb
      rw [show ((1 + b : Nat) : Int) = 1 + (b : Int) by simp] at hNb
      have hFa := fun w => form_any (1 + a) w
      rw [show (1 + (a : Int)) = ((1 + a : Nat) : Int) by simp, rowI_nat _ (by omega) (by omega)] at hFa
      rw [show ((1 + a : Nat) : Int) = 1 + (a : Int) by simp] at hFa
      have qa := list_ne (rv.name_some (1 + a) (by omega) (by omega))
      obtain ⟨f1, -⟩ := rv.form_one (1 + a) (by omega) (by omega)
      have hne := rv.names_ne (1 + a) (by omega) (1 + b) (by omega) (by omega) (by omega)
      by_cases hab : a = b
      · subst hab
        clear hne
        obtain ⟨na, ea⟩ : ∃ z, (rv.row (1 + a)).name = z := ⟨_, rfl⟩
        obtain ⟨fa, eb⟩ : ∃ z, (rv.row (1 + a)).form = z := ⟨_, rfl⟩
        rw [ea] at hNa qa
        rw [eb] at hFa f1
        rw [ea] at hNb
        clear ea eb
        have HNa := bl.hid hNa
        have HNb := bl.hid hNb
        have HFa := bl.hid hFa
        clear hNa hNb hFa
        go_wp2_with fail
        refine (HNa.out _).mono ?_
        rintro e w2 ⟨rfl, hb⟩
        have hsz2 := hb.size
        have HB2 := bl.hid (kt.below_call HB1.out hb)
        clear hb
        go_wp2_with fail
        refine (HFa.out _).mono ?_
        rintro e w3 ⟨rfl, hb⟩
        have hsz3 := hb.size
        have HB3 := bl.hid (kt.below_call HB2.out hb)
        clear hb
        go_wp2_with fail
        refine (HNa.out _).mono ?_
        rintro e w4 ⟨rfl, hb⟩
        have hsz4 := hb.size
        have HB4 := bl.hid (kt.below_call HB3.out hb)
        clear hb
        go_wp2_with fail
        refine (HNb.out _).mono ?_
        rintro e w5 ⟨rfl, hb⟩
        have hsz5 := hb.size
        have HB5 := bl.hid (kt.below_call HB4.out hb)
        clear hb
        go_wp2_with fail
        refine (HNm.out _).mono ?_
        rintro e w6 ⟨rfl, hb⟩
        have hsz6 := hb.size
        have HB6 := bl.hid (kt.below_call HB5.out hb)
        clear hb
        go_wp2_with fail
        refine (HFm.out _).mono ?_
        rintro e w7 ⟨rfl, hb⟩
        have hsz7 := hb.size
        have HB7 := bl.hid (kt.below_call HB6.out hb)
        clear hb
        go_wp2
        go_ret
        exact ⟨rfl, HB7.out⟩
      · have hxy : ((rv.row (1 + a)).name.toList == (rv.row (1 + b)).name.toList) = false := by cases h : (rv.row (1 + a)).name.toList == (rv.row (1 + b)).name.toList with | false => rfl | true => exact absurd (hne (by have := eq_of_beq h; rwa [ByteArray.toList_eq, ByteArray.toList_eq] at this)) (by omega)
        have hab2 : ((1 + (a : Int)) == (1 + (b : Int))) = false := by rw [beq_eq_false_iff_ne]; omega
        clear hne
        obtain ⟨na, ea⟩ : ∃ z, (rv.row (1 + a)).name = z := ⟨_, rfl⟩
        obtain ⟨fa, eb⟩ : ∃ z, (rv.row (1 + a)).form = z := ⟨_, rfl⟩
        obtain ⟨nb, ec⟩ : ∃ z, (rv.row (1 + b)).name = z := ⟨_, rfl⟩
        rw [ea, ec] at hxy
        rw [ec] at hNb
        rw [ea] at hNa qa
        rw [eb] at hFa f1
        clear ea eb ec
        have HNa := bl.hid hNa
        have HNb := bl.hid hNb
        have HFa := bl.hid hFa
        clear hNa hNb hFa hab
        go_wp2_with fail
        refine (HNa.out _).mono ?_
        rintro e w2 ⟨rfl, hb⟩
        have hsz2 := hb.size
        have HB2 := bl.hid (kt.below_call HB1.out hb)
        clear hb
        go_wp2_with fail
        refine (HFa.out _).mono ?_
        rintro e w3 ⟨rfl, hb⟩
        have hsz3 := hb.size
        have HB3 := bl.hid (kt.below_call HB2.out hb)
        clear hb
        go_wp2_with fail
        refine (HNa.out _).mono ?_
        rintro e w4 ⟨rfl, hb⟩
        have hsz4 := hb.size
        have HB4 := bl.hid (kt.below_call HB3.out hb)
        clear hb
        go_wp2_with fail
        refine (HNb.out _).mono ?_
        rintro e w5 ⟨rfl, hb⟩
        have hsz5 := hb.size
        have HB5 := bl.hid (kt.below_call HB4.out hb)
        clear hb
        go_wp2_with fail
        refine (HNm.out _).mono ?_
        rintro e w6 ⟨rfl, hb⟩
        have hsz6 := hb.size
        have HB6 := bl.hid (kt.below_call HB5.out hb)
        clear hb
        go_wp2_with fail
        refine (HFm.out _).mono ?_
        rintro e w7 ⟨rfl, hb⟩
        have hsz7 := hb.size
        have HB7 := bl.hid (kt.below_call HB6.out hb)
        clear hb
        go_wp2
        go_ret
        exact ⟨rfl, HB7.out⟩
    · have htriv : True := trivial
      have hmd : decide (m ≤ 63) = false := decide_eq_false (by omega)
      go_enter Try.func9, Try.ntmps9
      go_wp2_with fail
      refine (awake_any _).mono ?_
      rintro e w1 ⟨rfl, hb⟩
      have hsz1 := hb.size
      have HB1 := bl.hid (kt.below_call (Below.refl _ _) hb)
      clear hb
      go_wp2_with fail
      refine (pick_any _ _ _ (by omega) (by omega) m0 m1).mono ?_
      rintro e w' ⟨i, i0, i1, rfl, rfl⟩
      go_wp2_with fail
      refine (pick_any _ _ _ (by omega) (by omega) n0 n1).mono ?_
      rintro e w' ⟨j, j0, j1, rfl, rfl⟩
      obtain ⟨a, rfl⟩ : ∃ a : Nat, i = a := ⟨i.toNat, by omega⟩
      obtain ⟨b, rfl⟩ : ∃ b : Nat, j = b := ⟨j.toNat, by omega⟩
      have hNa := fun w => name_any (1 + a) w
      rw [show (1 + (a : Int)) = ((1 + a : Nat) : Int) by simp, rowI_nat _ (by omega) (by omega)] at hNa
      rw [show ((1 + a : Nat) : Int) = 1 + (a : Int) by simp] at hNa
      have hNb := fun w => name_any (1 + b) w
      rw [show (1 + (b : Int)) = ((1 + b : Nat) : Int) by simp, rowI_nat _ (by omega) (by omega)] at hNb
      rw [show ((1 + b : Nat) : Int) = 1 + (b : Int) by simp] at hNb
      have hFa := fun w => form_any (1 + a) w
      rw [show (1 + (a : Int)) = ((1 + a : Nat) : Int) by simp, rowI_nat _ (by omega) (by omega)] at hFa
      rw [show ((1 + a : Nat) : Int) = 1 + (a : Int) by simp] at hFa
      have qa := list_ne (rv.name_some (1 + a) (by omega) (by omega))
      obtain ⟨f1, -⟩ := rv.form_one (1 + a) (by omega) (by omega)
      have hne := rv.names_ne (1 + a) (by omega) (1 + b) (by omega) (by omega) (by omega)
      by_cases hab : a = b
      · subst hab
        clear hne
        obtain ⟨na, ea⟩ : ∃ z, (rv.row (1 + a)).name = z := ⟨_, rfl⟩
        obtain ⟨fa, eb⟩ : ∃ z, (rv.row (1 + a)).form = z := ⟨_, rfl⟩
        rw [ea] at hNa qa
        rw [eb] at hFa f1
        rw [ea] at hNb
        clear ea eb
        have HNa := bl.hid hNa
        have HNb := bl.hid hNb
        have HFa := bl.hid hFa
        clear hNa hNb hFa
        go_wp2_with fail
        refine (HNa.out _).mono ?_
        rintro e w2 ⟨rfl, hb⟩
        have hsz2 := hb.size
        have HB2 := bl.hid (kt.below_call HB1.out hb)
        clear hb
        go_wp2_with fail
        refine (HFa.out _).mono ?_
        rintro e w3 ⟨rfl, hb⟩
        have hsz3 := hb.size
        have HB3 := bl.hid (kt.below_call HB2.out hb)
        clear hb
        go_wp2_with fail
        refine (HNa.out _).mono ?_
        rintro e w4 ⟨rfl, hb⟩
        have hsz4 := hb.size
        have HB4 := bl.hid (kt.below_call HB3.out hb)
        clear hb
        go_wp2_with fail
        refine (HNb.out _).mono ?_
        rintro e w5 ⟨rfl, hb⟩
        have hsz5 := hb.size
        have HB5 := bl.hid (kt.below_call HB4.out hb)
        clear hb
        go_wp2_with fail
        refine (HNm.out _).mono ?_
        rintro e w6 ⟨rfl, hb⟩
        have hsz6 := hb.size
        have HB6 := bl.hid (kt.below_call HB5.out hb)
        clear hb
        go_wp2_with fail
        refine (HFm.out _).mono ?_
        rintro e w7 ⟨rfl, hb⟩
        have hsz7 := hb.size
        have HB7 := bl.hid (kt.below_call HB6.out hb)
        clear hb
        go_wp2
        go_ret
        exact ⟨rfl, HB7.out⟩
      · have hxy : ((rv.row (1 + a)).name.toList == (rv.row (1 + b)).name.toList) = false := by cases h : (rv.row (1 + a)).name.toList == (rv.row (1 + b)).name.toList with | false => rfl | true => exact absurd (hne (by have := eq_of_beq h; rwa [ByteArray.toList_eq, ByteArray.toList_eq] at this)) (by omega)
        have hab2 : ((1 + (a : Int)) == (1 + (b : Int))) = false := by rw [beq_eq_false_iff_ne]; omega
        clear hne
        obtain ⟨na, ea⟩ : ∃ z, (rv.row (1 + a)).name = z := ⟨_, rfl⟩
        obtain ⟨fa, eb⟩ : ∃ z, (rv.row (1 + a)).form = z := ⟨_, rfl⟩
        obtain ⟨nb, ec⟩ : ∃ z, (rv.row (1 + b)).name = z := ⟨_, rfl⟩
        rw [ea, ec] at hxy
        rw [ec] at hNb
        rw [ea] at hNa qa
        rw [eb] at hFa f1
        clear ea eb ec
        have HNa := bl.hid hNa
        have HNb := bl.hid hNb
        have HFa := bl.hid hFa
        clear hNa hNb hFa hab
        go_wp2_with fail
        refine (HNa.out _).mono ?_
        rintro e w2 ⟨rfl, hb⟩
        have hsz2 := hb.size
        have HB2 := bl.hid (kt.below_call HB1.out hb)
        clear hb
        go_wp2_with fail
        refine (HFa.out _).mono ?_
        rintro e w3 ⟨rfl, hb⟩
        have hsz3 := hb.size
        have HB3 := bl.hid (kt.below_call HB2.out hb)
        clear hb
        go_wp2_with fail
        refine (HNa.out _).mono ?_
        rintro e w4 ⟨rfl, hb⟩
        have hsz4 := hb.size
        have HB4 := bl.hid (kt.below_call HB3.out hb)
        clear hb
        go_wp2_with fail
        refine (HNb.out _).mono ?_
        rintro e w5 ⟨rfl, hb⟩
        have hsz5 := hb.size
        have HB5 := bl.hid (kt.below_call HB4.out hb)
        clear hb
        go_wp2_with fail
        refine (HNm.out _).mono ?_
        rintro e w6 ⟨rfl, hb⟩
        have hsz6 := hb.size
        have HB6 := bl.hid (kt.below_call HB5.out hb)
        clear hb
        go_wp2_with fail
        refine (HFm.out _).mono ?_
        rintro e w7 ⟨rfl, hb⟩
        have hsz7 := hb.size
        have HB7 := bl.hid (kt.below_call HB6.out hb)
        clear hb
        go_wp2
        go_ret
        exact ⟨rfl, HB7.out⟩
end Go.Proofs.Ytbfoooplhpikjaa
