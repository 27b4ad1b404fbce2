/- The reference's Decode. -/
import Derived.Test.YtbfoooplhpikjaaRfReads
import Derived.Test.YtbfoooplhpikjaaRfEnc
import Derived.Test.YtbfoooplhpikjaaRvLaws
namespace Go.Proofs.Ytbfoooplhpikjaa
open Go.RowKit
set_option linter.unusedVariables false
theorem rreads_any (k : Nat) (h1 : k < 64) (h2 : 1 ≤ k) (v : Int) (hv : 0 ≤ v ∧ v < 4294967296) (w : World) :
    Calls Try.prog 28 #[.int .i64 k, .int .u32 v] w fun e w' => e = .returned (.agg (readRow k (rv.numsK k v))) ∧ Below w.heap.size w w' := by
  rcases rv.form_cases k h1 h2 with h | h | h | h | h | h | h | h | h
  · exact rreads_R k h1 h2 h v hv w
  · exact rreads_I k h1 h2 h v hv w
  · exact rreads_X k h1 h2 h v hv w
  · exact rreads_Y k h1 h2 h v hv w
  · exact rreads_S k h1 h2 h v hv w
  · exact rreads_B k h1 h2 h v hv w
  · exact rreads_U k h1 h2 h v hv w
  · exact rreads_J k h1 h2 h v hv w
  · exact rreads_E k h1 h2 h v hv w
theorem rencode_any (op rd rs1 rs2 im : Int) (w : World) :
    Calls Try.prog 16 #[.agg #[.int .i64 op, .int .i64 rd, .int .i64 rs1, .int .i64 rs2, .int .i64 im]] w fun e w' => e = .returned (.tuple #[.int .u32 (rv.encI op rd rs1 rs2 im), .int .i64 (rv.chkI op rd rs1 rs2 im)]) ∧ Below w.heap.size w w' := by
  by_cases hc : rv.chkI op rd rs1 rs2 im = 0
  · obtain ⟨h1, h2⟩ := rv.chk_is _ _ _ _ _ hc
    obtain ⟨k, rfl⟩ : ∃ k : Nat, op = k := ⟨op.toNat, by omega⟩
    have e : rv.encI k rd rs1 rs2 im = rv.wordK k rd rs1 rs2 im := by unfold rv.encI; rw [if_pos hc, Int.toNat_natCast]
    have hs := (rv.chkI_nat k (by omega) (by omega) rd rs1 rs2 im).mp hc
    rw [hc, e]
    rcases rv.form_cases k (by omega) (by omega) with h | h | h | h | h | h | h | h | h
    · exact rencode_R k (by omega) (by omega) h _ _ _ _ hs w
    · exact rencode_I k (by omega) (by omega) h _ _ _ _ hs w
    · exact rencode_X k (by omega) (by omega) h _ _ _ _ hs w
    · exact rencode_Y k (by omega) (by omega) h _ _ _ _ hs w
    · exact rencode_S k (by omega) (by omega) h _ _ _ _ hs w
    · exact rencode_B k (by omega) (by omega) h _ _ _ _ hs w
    · exact rencode_U k (by omega) (by omega) h _ _ _ _ hs w
    · exact rencode_J k (by omega) (by omega) h _ _ _ _ hs w
    · exact rencode_E k (by omega) (by omega) h _ _ _ _ hs w
  · have HE : Hid (rv.encI op rd rs1 rs2 im = 0) := bl.hid (by unfold rv.encI; rw [if_neg hc])
    have HC := bl.hid (fun w => rcheck_any op rd rs1 rs2 im w)
    have hq2 : rv.chkI op rd rs1 rs2 im = 2 := by
      unfold rv.chkI at hc ⊢
      split
      · rename_i h
        rw [if_pos h] at hc
        unfold rv.chkR at hc ⊢
        split
        · rename_i h2
          rw [if_pos h2] at hc
          exact absurd rfl hc
        · rfl
      · rfl
    rw [hq2] at HC ⊢
    clear hc hq2
    go_enter Try.func16, Try.ntmps16
    go_wp2_with fail
    refine (HC.out _).mono ?_
    rintro e w1 ⟨rfl, hb⟩
    obtain ⟨r0, hb1, hs1⟩ := one_box hb
    have HB1 := bl.hid hb1
    clear hb r0 hb1
    go_wp2
    go_ret2
    exact ⟨by rw [HE.out]; rfl, HB1.out⟩
theorem hits_iff (v : Int) (hv : 0 ≤ v ∧ v < 4294967296) (k : Nat) (h1 : k < 64) (h2 : 1 ≤ k) : rv.hits v k = true ↔ (rv.chkI k (rv.numsK k v 1) (rv.numsK k v 2) (rv.numsK k v 3) (rv.numsK k v 4) = 0 ∧ rv.encI k (rv.numsK k v 1) (rv.numsK k v 2) (rv.numsK k v 3) (rv.numsK k v 4) = v) := by
  constructor
  · intro h
    obtain ⟨c, e⟩ := rv.hits_has k h1 h2 v h
    have hc := (rv.chkI_nat k h1 h2 _ _ _ _).mpr c
    refine ⟨hc, ?_⟩
    unfold rv.encI
    rw [if_pos hc, Int.toNat_natCast]
    exact e
  · rintro ⟨hc, e⟩
    unfold rv.encI at e
    rw [if_pos hc, Int.toNat_natCast] at e
    have := rv.hits_of k h1 h2 _ _ _ _ ((rv.chkI_nat k h1 h2 _ _ _ _).mp hc)
    rw [e] at this
    exact this
theorem hits_a (v : Int) (k : Nat) (h1 : k < 64) (h2 : 1 ≤ k) (h : rv.hits v k = true) : (rv.row k).a = v % 128 := by
  obtain ⟨c, e⟩ := rv.hits_has k h1 h2 v h
  have := (rv.has_any k h1 h2 _ _ _ _ c).a
  rw [e] at this
  exact this.symm
set_option maxRecDepth 100000 in
set_option maxHeartbeats 3200000 in
theorem rdecode_any (v : Int) (v0 : 0 ≤ v) (v1 : v < 4294967296) (w : World) :
    Calls Try.prog 11 #[.int .u32 v] w fun e w' => e = .returned (.tuple #[.agg (rv.decRow v), .int .i64 (rv.decE v)]) ∧ Below w.heap.size w w' := by
  go_enter Try.func11, Try.ntmps11
  go_wp2_with fail
  refine (refrows _).mono ?_
  rintro e w1 ⟨B, rfl, hB0, hB1, hR, hb⟩
  obtain ⟨r0, hb1, hs1⟩ := one_box hb
  have HR0 := bl.hid r0
  have HB1 := bl.hid hb1
  have HRB := bl.hid hR
  rw [World.size_alloc] at hB0
  clear hb r0 hb1 hR
  go_wp2
  go_loopw [5] (fun x wr => ∃ k : Nat, 1 ≤ k ∧ k ≤ 64 ∧ x = .int .i64 k ∧ (∀ i, 1 ≤ i → i < k → rv.hits v i = false) ∧ Below w1.heap.size w1 wr) (fun x _ => 64 - (intOf x).toNat)
  case atStart => exact ⟨1, by omega, by omega, rfl, fun i a b => by omega, Below.refl _ _⟩
  case round =>
    obtain ⟨k, hk1, hk, rfl, hno, hbw⟩ := hrel
    have hg0 := hbw.block w.heap.size (by omega)
    rw [HR0.out] at hg0
    have HG0 := bl.hid hg0
    have HRW : Hid (RefAt wr B) := bl.hid ⟨(hbw.block B hB1).trans HRB.out.h⟩
    have HNo := bl.hid hno
    have HBW := bl.hid hbw
    have hsw := hbw.size
    clear hg0 hno hbw
    by_cases hlt : k < 64
    · obtain ⟨j, rfl⟩ : ∃ j, k = j + 1 := ⟨k - 1, by omega⟩
      have HNext : Hid (rv.hits v (j + 1) = false → ∀ i, 1 ≤ i → i < j + 1 + 1 → rv.hits v i = false) := bl.hid fun hh i p q => by
        by_cases e : i = j + 1
        · rw [e]; exact hh
        · exact HNo.out i p (by omega)
      obtain ⟨-, -, c2, -, -⟩ := HRW.out.cells j (by omega)
      obtain ⟨a, ea⟩ : ∃ a, (rv.row (j + 1)).a = a := ⟨_, rfl⟩
      rw [ea] at c2
      have HA := bl.hid ea
      clear ea
      have lB : B < wr.heap.size := by omega
      obtain ⟨x, hx⟩ : ∃ x : Int, ((j + 1 : Nat) : Int) = x := ⟨_, rfl⟩
      have HRead := bl.hid (fun w => rreads_any (j + 1) (by omega) (by omega) v ⟨v0, v1⟩ w)
      have HEnc := bl.hid (fun a b c d w => rencode_any ((j + 1 : Nat) : Int) a b c d w)
      have HHit := bl.hid (hits_iff v ⟨v0, v1⟩ (j + 1) (by omega) (by omega))
      rw [hx] at HRead HEnc HHit ⊢
      have hxj : (x - 1).toNat = j := by omega
      have x0 : 1 ≤ x := by omega
      have x1 : x ≤ 63 := by omega
      have HX := bl.hid hx
      clear hx
      by_cases ha : a = v % 128
      · have ha2 : (a != v % 128) = false := by simpa using ha
        clear ha
        unfold readRow at HRead
        obtain ⟨y1, e1⟩ : ∃ y, rv.numsK (j + 1) v 1 = y := ⟨_, rfl⟩
        obtain ⟨y2, e2⟩ : ∃ y, rv.numsK (j + 1) v 2 = y := ⟨_, rfl⟩
        obtain ⟨y3, e3⟩ : ∃ y, rv.numsK (j + 1) v 3 = y := ⟨_, rfl⟩
        obtain ⟨y4, e4⟩ : ∃ y, rv.numsK (j + 1) v 4 = y := ⟨_, rfl⟩
        rw [e1, e2, e3, e4] at HRead HHit
        have HN4 := bl.hid (And.intro e1 (And.intro e2 (And.intro e3 e4)))
        have HE := bl.hid (HEnc.out y1 y2 y3 y4)
        obtain ⟨q, hq⟩ : ∃ q, rv.chkI x y1 y2 y3 y4 = q := ⟨_, rfl⟩
        obtain ⟨g, hg⟩ : ∃ g, rv.encI x y1 y2 y3 y4 = g := ⟨_, rfl⟩
        rw [hq, hg] at HE HHit
        clear e1 e2 e3 e4 hq hg HEnc
        go_wp2_with fail
        refine (HRead.out _).mono ?_
        rintro e w2 ⟨rfl, hb⟩
        have HB2 := bl.hid (HBW.out.trans (hb.mono hsw))
        have hs2 := hb.size
        clear hb c2
        go_wp2_with fail
        refine (HE.out _).mono ?_
        rintro e w3 ⟨rfl, hb⟩
        obtain ⟨rx, hb3, hs3⟩ := one_box hb
        have HB3 : Hid (Below w1.heap.size w1 w3) := bl.hid (HB2.out.trans (hb3.mono (by omega)))
        have hg3 : w3.heap[w.heap.size]? = w1.heap[w.heap.size]? := HB3.out.block _ (by omega)
        rw [HR0.out] at hg3
        have HG3 := bl.hid hg3
        have HRX := bl.hid rx
        have l3 : w2.heap.size < w3.heap.size := by omega
        have l4 : w.heap.size < w3.heap.size := by omega
        obtain ⟨d0, d1, d2, d3, d4⟩ := RvAt.of_box rx
        clear hb hb3 hg3 rx
        by_cases hh : q = 0 ∧ g = v
        · obtain ⟨rfl, hgv⟩ := hh
          have HO : Hid (rv.opOf v = j + 1) := bl.hid (rv.opOf_eq v (j + 1) (by omega) (by omega) (HHit.out.mpr ⟨rfl, hgv⟩) HNo.out)
          have hgv2 : (g == v) = true := by simpa using hgv
          clear hgv
          go_wp2_with (refine wpList_store_row rfl 24 _ _ rfl w.heap.size #[.int .i64 x, .int .i64 y1, .int .i64 y2, .int .i64 y3, .int .i64 y4] rfl rfl 24 _ HG3.out rv_info rfl (rv_one _ _ _ _ _) ?_)
          refine bodyPost_ret (kt.results_row_tmp rfl _ _ w.heap.size 24 _ (0, 0) _ rfl (setRow_heap _ _ _ _ _ _ HG3.out) Try.underlying24 rfl rv_info) rfl ?_
          have hbe : Below w.heap.size w w3 := HB1.out.trans (HB3.out.mono (by omega))
          refine ⟨?_, hbe.trans ⟨rfl, rfl, rfl, by simp, fun k hk => setRow_other _ _ _ _ (by omega)⟩⟩
          unfold rv.decRow rv.decE
          rw [HO.out, if_pos hlt, if_pos hlt]
          unfold readRow
          rw [HN4.out.1, HN4.out.2.1, HN4.out.2.2.1, HN4.out.2.2.2, HX.out]
          rfl
        · have HN := bl.hid (HNext.out (by
            cases h2 : rv.hits v (j + 1)
            · rfl
            · exact absurd (HHit.out.mp h2) hh))
          by_cases hq : q = 0
          · have hgv : (g == v) = false := by cases h2 : g == v with | false => rfl | true => exact absurd ⟨hq, by simpa using h2⟩ hh
            subst hq
            clear hh
            go_wp2
            exact ⟨⟨j + 1 + 1, by omega, by omega, by have := HX.out; go_num, HN.out, HB3.out⟩, by have := HX.out; simp [intOf]; omega⟩
          · have hq2 : (q == 0) = false := by simpa using hq
            clear hh hq
            go_wp2
            exact ⟨⟨j + 1 + 1, by omega, by omega, by have := HX.out; go_num, HN.out, HB3.out⟩, by have := HX.out; simp [intOf]; omega⟩
      · have ha2 : (a != v % 128) = true := by simpa using ha
        have HN := bl.hid (HNext.out (by
          cases hh : rv.hits v (j + 1)
          · rfl
          · exact absurd (HA.out.symm.trans (hits_a v (j + 1) (by omega) (by omega) hh)) ha))
        clear ha
        go_wp2
        exact ⟨⟨j + 1 + 1, by omega, by omega, by have := HX.out; go_num, HN.out, HBW.out⟩, by have := HX.out; simp [intOf]; omega⟩
    · obtain rfl : k = 64 := by omega
      have HN : Hid (rv.opOf v = 64) := bl.hid (rv.opOf_none v HNo.out)
      have HBE : Hid (Below w.heap.size w wr) := bl.hid (HB1.out.trans (HBW.out.mono (by omega)))
      go_wp2_with (refine wpList_store_row rfl 24 _ _ rfl w.heap.size #[.int .i64 0, .int .i64 0, .int .i64 0, .int .i64 0, .int .i64 0] rfl rfl 24 _ HG0.out rv_info rfl (rv_one _ _ _ _ _) ?_)
      refine bodyPost_ret (kt.results_row_tmp rfl _ _ w.heap.size 24 _ (0, 0) _ rfl (setRow_heap _ _ _ _ _ _ HG0.out) Try.underlying24 rfl rv_info) rfl ?_
      refine ⟨?_, HBE.out.trans ⟨rfl, rfl, rfl, by simp, fun k hk => setRow_other _ _ _ _ (by omega)⟩⟩
      unfold rv.decRow rv.decE
      rw [HN.out]
      rfl
end Go.Proofs.Ytbfoooplhpikjaa
