/- MemScript, walked: it returns true. -/
import Derived.Test.YtkohmoekomegnaaMemAlike
import Derived.Test.YtkohmoekomegnaaMemCome
namespace Go.Proofs.Ytkohmoekomegnaa
open Go.RowKit
set_option linter.unusedVariables false

theorem longB_no {len : Nat} {xs : Nat → kt.Act} (h : kt.longB len xs = false) : len ≤ 60 ∧ ∀ i, i < len → (xs i).bl ≤ 200 := by
  unfold kt.longB at h
  simp only [Bool.or_eq_false_iff, decide_eq_false_iff_not, not_exists, not_and] at h
  exact ⟨by omega, fun i hi => by have := h.1 i hi; omega⟩
theorem ldE_one (l : List Int) (h : 16 < l.length) : pl.ldE l 16 1 = 0 := by
  have hf : pl.fit l 16 1 = true := decide_eq_true (by omega)
  have hs : pl.sizB 1 = true := by decide
  simp [pl.ldE, hs, hf]
set_option maxRecDepth 100000 in
set_option maxHeartbeats 800000 in
theorem script_long (a : Option Addr) (len cap : Nat) (xs : Nat → kt.Act) (s : Int) (w : World) (h : kt.Acts w a len xs) (hlg : kt.longB len xs = true) :
    Calls Try.prog 6 #[.int .i64 s, .slice a len cap] w fun e w' => e = .returned (.bool true) ∧ Below w.heap.size w w' := by
  have H := bl.hid h
  have HG := bl.hid hlg
  clear h hlg
  go_enter Try.func6, Try.ntmps6
  go_wp2_with fail
  refine (long_any a len cap xs _ H.out).mono ?_
  rw [HG.out]
  rintro e w' ⟨rfl, rfl⟩
  go_wp2_with fail
  refine (awake_true _).mono ?_
  rintro e w1 ⟨rfl, hb1⟩
  go_wp2
  go_ret
  exact ⟨rfl, hb1⟩
set_option maxRecDepth 100000 in
set_option maxHeartbeats 800000 in
theorem script_none (a : Option Addr) (len cap : Nat) (xs : Nat → kt.Act) (s : Int) (w : World) (h : kt.Acts w a len xs) (hlg : kt.longB len xs = false) (hs : s < 16 ∨ 65536 < s) :
    Calls Try.prog 6 #[.int .i64 s, .slice a len cap] w fun e w' => e = .returned (.bool true) ∧ Below w.heap.size w w' := by
  have H := bl.hid h
  have HG := bl.hid hlg
  have HS := bl.hid hs
  clear h hlg hs
  go_enter Try.func6, Try.ntmps6
  go_wp2_with fail
  refine (long_any a len cap xs _ H.out).mono ?_
  rw [HG.out]
  rintro e w' ⟨rfl, rfl⟩
  go_wp2_with fail
  refine (new_no s _ HS.out).mono ?_
  rintro e w' ⟨rfl, rfl⟩
  go_wp2_with fail
  refine (rnew_no s _ HS.out).mono ?_
  rintro e w' ⟨rfl, rfl⟩
  go_wp2
  refine wp_loop_rounds 1 ?_
  rw [rounds_succ]
  go_wp2_with fail
  refine (awake_true _).mono ?_
  rintro e w1 ⟨rfl, hb1⟩
  go_wp2
  go_ret
  exact ⟨rfl, hb1⟩
set_option maxRecDepth 100000 in
set_option maxHeartbeats 6400000 in
theorem script_core (a : Option Addr) (len cap : Nat) (xs : Nat → kt.Act) (s : Nat) (w : World) (h : kt.Acts w a len xs) (hlg : kt.longB len xs = false) (hs0 : 16 ≤ s) (hs1 : s ≤ 65536) :
    Calls Try.prog 6 #[.int .i64 s, .slice a len cap] w fun e w' => e = .returned (.bool true) ∧ Below w.heap.size w w' := by
  have H := bl.hid h
  have HG := bl.hid hlg
  have hl60 := (longB_no hlg).1
  have H200 := bl.hid (longB_no hlg).2
  clear h hlg
  go_enter Try.func6, Try.ntmps6
  go_wp2_with fail
  refine (long_any a len cap xs _ H.out).mono ?_
  rw [HG.out]
  rintro e w' ⟨rfl, rfl⟩
  go_wp2_with fail
  refine (new_ok s _ hs0 hs1).mono ?_
  rintro e w1 ⟨p0, g0, rfl, hp0, hg0, hm, hb1⟩
  have HM := bl.hid hm
  have s1 := hb1.size
  clear hm
  go_wp2_with fail
  refine (rnew_ok s _ hs0 hs1).mono ?_
  rintro e w2 ⟨p', g', rfl, hp', hg', hr, hb2⟩
  have HB0 : Hid (Both w.heap.size w2 p0 g0 p' g' (List.replicate s 0)) := bl.hid ⟨HM.out.keep hb2, hr, by have := HM.out.lt; omega, by have := HM.out.lt; omega, by have := HM.out.lt; omega, hg0, by omega⟩
  have hb02 := hb1.trans (hb2.mono s1)
  clear hr hb2 hb1 HM hp0 hg0 hp' hg' s1
  go_wp2
  go_loopw [5, 9, 10] (fun m i _ wr => ∃ (k p g : Nat) (l : List Int), k ≤ len ∧ i = .int .i64 k ∧ m = .pointer (some ⟨p, 0, none⟩) ∧ 16 ≤ l.length ∧ Both w.heap.size wr p g p' g' l ∧ Below w.heap.size w wr) (fun _ i _ _ => len - (intOf i).toNat)
  case atStart => exact ⟨0, p0, g0, _, by omega, rfl, rfl, by rw [List.length_replicate]; exact hs0, HB0.out, hb02⟩
  case round =>
    obtain ⟨k, p, g, l, hk, rfl, rfl, hl, hboth, hbw⟩ := hrel
    clear HB0 hb02
    have HB := bl.hid hboth
    have HL := bl.hid hl
    clear hboth hl
    by_cases hlt : k < len
    · have hd : decide (k < len) = true := decide_eq_true hlt
      obtain ⟨b, off, rfl, hcc⟩ := H.out.2.2.resolve_left (by omega)
      have hA := hcc k hlt
      have hok := H.out.2.1 k hlt
      have hb2 := H200.out k hlt
      obtain ⟨x, hx⟩ : ∃ x, xs k = x := ⟨_, rfl⟩
      rw [hx] at hA hok hb2
      obtain ⟨kd, xn, xa, xv, ba, bn, bc, bs⟩ := x
      have hb200 : bn ≤ 200 := hb2
      have hbb : ∀ ad, ba = some ad → bn = 0 ∨ ad.block < w.heap.size := hok.bb
      have hk1 : k ≤ len - 1 := by omega
      clear hx hcc hb2 hk
      obtain ⟨y0, -⟩ := hA.cells hbw
      by_cases k6 : kd = 6
      · subst k6
        by_cases h16 : 16 < l.length
        · have hd16 : decide ((16 : Int) < (l.length : Int)) = true := decide_eq_true (by omega)
          have HS1 := bl.hid (ldE_one l h16)
          have HBB := bl.hid hbb
          clear hbb
          go_wp2_with fail
          refine (mcopy_any p g l _ HB.out.m (by have := HL.out; omega)).mono ?_
          rintro e u1 ⟨p2, g2, rfl, hp2, hg2, hm2, hb⟩
          have s1 := HB.out.size
          have HK1 := bl.hid hm2
          have HB1 := bl.hid (HB.out.keep hb)
          have b1 := hbw.trans (hb.mono s1)
          have t1 := b1.size
          clear hb hm2
          go_wp2_with fail
          refine (msame_yes p2 g2 p g _ _ _ HK1.out HB1.out.m rfl).mono ?_
          rintro e u2 ⟨rfl, hb⟩
          have HK2 := bl.hid (HK1.out.keep hb)
          have HB2 := bl.hid (HB1.out.keep hb)
          have b2 := b1.trans (hb.mono t1)
          have t2 := b2.size
          clear hb HK1 HB1 b1 t1
          go_wp2_with fail
          refine (msame_yes p g p2 g2 _ _ _ HB2.out.m HK2.out rfl).mono ?_
          rintro e u3 ⟨rfl, hb⟩
          have HK3 := bl.hid (HK2.out.keep hb)
          have HB3 := bl.hid (HB2.out.keep hb)
          have b3 := b2.trans (hb.mono t2)
          have t3 := b3.size
          clear hb HK2 HB2 b2 t2
          obtain ⟨cpm, -, hcm⟩ := HB3.out.m.cell
          go_wp2_with fail
          refine (size_any p g l.length cpm _ hcm).mono ?_
          rintro e w' ⟨rfl, rfl⟩
          go_wp2_with fail
          refine (store_any p2 g2 16 1 1 l _ HK3.out (by omega) (by omega) (by omega) (by omega)).mono ?_
          rintro e u4 ⟨rfl, hgr, -⟩
          rw [HS1.out]
          have HB4 : Hid (Both w.heap.size u4 p g p' g' l) := bl.hid ⟨HB3.out.m.kept (hgr.block p HB3.out.m.lt.1 (by have := HB.out.m.lt; simp; omega)) (hgr.block g HB3.out.m.lt.2 (by have := HB.out.m.lt; simp; omega)), HB3.out.r.kept (hgr.block p' HB3.out.r.lt.1 (by have := HB.out.r.lt; simp; omega)) (hgr.block g' HB3.out.r.lt.2 (by have := HB.out.r.lt; simp; omega)), HB3.out.d1, HB3.out.d2, HB3.out.d3, HB3.out.b1, HB3.out.b2⟩
          have b4 := b3.trans (grown_below hgr (Nat.le_trans s1 hg2) t3)
          have t4 := b4.size
          clear hgr HB3 HK3 b3 t3 hcm
          go_wp2_with fail
          refine (mcopy_any p g l _ HB4.out.m (by have := HL.out; omega)).mono ?_
          rintro e u5 ⟨p3, g3, rfl, hp3, hg3, hm3, hb⟩
          have HB5 : Hid (Both w.heap.size u5 p3 g3 p' g' l) := bl.hid ⟨hm3, (HB4.out.keep hb).r, by have := HB4.out.r.lt; omega, by have := HB4.out.r.lt; omega, by have := HB4.out.r.lt; omega, by omega, HB4.out.b2⟩
          have b5 := b4.trans (hb.mono t4)
          clear hb hm3 HB4 b4 t4 hp3 hg3 hp2 hg2 s1
          obtain ⟨e0, e1, e2, e3, e4⟩ := hA.cells b5
          go_wp2_with fail
          refine (does_any w.heap.size p3 g3 p' g' l 6 xn xa xv ba bn bc bs _ HB5.out (hok.keep b5) hb200 HBB.out).mono ?_
          rintro e v1 ⟨rfl, q1, l2, hl2, qb⟩
          have HB1 := bl.hid qb
          have hl16 : Hid (16 ≤ l2.length) := bl.hid (by rw [hl2]; exact HL.out)
          have q2 := b5.trans q1
          have sv := q2.size
          clear qb q1 hl2 e0 e1 e2 e3 e4
          go_wp2_with fail
          refine (alike_any w.heap.size p3 g3 p' g' l2 _ HB1.out hl16.out).mono ?_
          rintro e v2 ⟨rfl, q3⟩
          have HB2 := bl.hid (HB1.out.keep q3)
          have q4 := q2.trans (q3.mono sv)
          clear q3 q2 sv
          go_wp2
          go_roundw
          case rel => first | exact ⟨k + 1, p3, g3, l2, by omega, by go_num, rfl, hl16.out, HB2.out, q4⟩ | ((repeat apply Exists.intro); refine ⟨⟨k + 1, p3, g3, l2, by omega, by go_num, rfl, hl16.out, HB2.out, q4⟩, ?_⟩; and_intros <;> rfl)
          case measure => simp [intOf]; omega
        · have hd16 : decide ((16 : Int) < (l.length : Int)) = false := decide_eq_false (by omega)
          have HBB := bl.hid hbb
          clear hbb
          go_wp2_with fail
          refine (mcopy_any p g l _ HB.out.m (by have := HL.out; omega)).mono ?_
          rintro e u1 ⟨p2, g2, rfl, hp2, hg2, hm2, hb⟩
          have s1 := HB.out.size
          have HK1 := bl.hid hm2
          have HB1 := bl.hid (HB.out.keep hb)
          have b1 := hbw.trans (hb.mono s1)
          have t1 := b1.size
          clear hb hm2
          go_wp2_with fail
          refine (msame_yes p2 g2 p g _ _ _ HK1.out HB1.out.m rfl).mono ?_
          rintro e u2 ⟨rfl, hb⟩
          have HK2 := bl.hid (HK1.out.keep hb)
          have HB2 := bl.hid (HB1.out.keep hb)
          have b2 := b1.trans (hb.mono t1)
          have t2 := b2.size
          clear hb HK1 HB1 b1 t1
          go_wp2_with fail
          refine (msame_yes p g p2 g2 _ _ _ HB2.out.m HK2.out rfl).mono ?_
          rintro e u3 ⟨rfl, hb⟩
          have HK3 := bl.hid (HK2.out.keep hb)
          have HB3 := bl.hid (HB2.out.keep hb)
          have b3 := b2.trans (hb.mono t2)
          have t3 := b3.size
          clear hb HK2 HB2 b2 t2
          obtain ⟨cpm, -, hcm⟩ := HB3.out.m.cell
          go_wp2_with fail
          refine (size_any p g l.length cpm _ hcm).mono ?_
          rintro e w' ⟨rfl, rfl⟩
          have HB4 := HB3
          have b4 := b3
          have t4 := t3
          clear HB3 b3 t3 hcm
          go_wp2_with fail
          refine (mcopy_any p g l _ HB4.out.m (by have := HL.out; omega)).mono ?_
          rintro e u5 ⟨p3, g3, rfl, hp3, hg3, hm3, hb⟩
          have HB5 : Hid (Both w.heap.size u5 p3 g3 p' g' l) := bl.hid ⟨hm3, (HB4.out.keep hb).r, by have := HB4.out.r.lt; omega, by have := HB4.out.r.lt; omega, by have := HB4.out.r.lt; omega, by omega, HB4.out.b2⟩
          have b5 := b4.trans (hb.mono t4)
          clear hb hm3 HB4 b4 t4 hp3 hg3 hp2 hg2 s1
          obtain ⟨e0, e1, e2, e3, e4⟩ := hA.cells b5
          go_wp2_with fail
          refine (does_any w.heap.size p3 g3 p' g' l 6 xn xa xv ba bn bc bs _ HB5.out (hok.keep b5) hb200 HBB.out).mono ?_
          rintro e v1 ⟨rfl, q1, l2, hl2, qb⟩
          have HB1 := bl.hid qb
          have hl16 : Hid (16 ≤ l2.length) := bl.hid (by rw [hl2]; exact HL.out)
          have q2 := b5.trans q1
          have sv := q2.size
          clear qb q1 hl2 e0 e1 e2 e3 e4
          go_wp2_with fail
          refine (alike_any w.heap.size p3 g3 p' g' l2 _ HB1.out hl16.out).mono ?_
          rintro e v2 ⟨rfl, q3⟩
          have HB2 := bl.hid (HB1.out.keep q3)
          have q4 := q2.trans (q3.mono sv)
          clear q3 q2 sv
          go_wp2
          go_roundw
          case rel => first | exact ⟨k + 1, p3, g3, l2, by omega, by go_num, rfl, hl16.out, HB2.out, q4⟩ | ((repeat apply Exists.intro); refine ⟨⟨k + 1, p3, g3, l2, by omega, by go_num, rfl, hl16.out, HB2.out, q4⟩, ?_⟩; and_intros <;> rfl)
          case measure => simp [intOf]; omega
      · have k6b : (kd == 6) = false := by simpa using k6
        have HBB := bl.hid hbb
        clear k6 hbb
        obtain ⟨e0, e1, e2, e3, e4⟩ := hA.cells hbw
        go_wp2_with fail
        refine (does_any w.heap.size p g p' g' l kd xn xa xv ba bn bc bs _ HB.out (hok.keep hbw) hb200 HBB.out).mono ?_
        rintro e v1 ⟨rfl, q1, l2, hl2, qb⟩
        have HB1 := bl.hid qb
        have hl16 : Hid (16 ≤ l2.length) := bl.hid (by rw [hl2]; exact HL.out)
        have q2 := hbw.trans q1
        have sv := q2.size
        clear qb q1 hl2 e0 e1 e2 e3 e4
        go_wp2_with fail
        refine (alike_any w.heap.size p g p' g' l2 _ HB1.out hl16.out).mono ?_
        rintro e v2 ⟨rfl, q3⟩
        have HB2 := bl.hid (HB1.out.keep q3)
        have q4 := q2.trans (q3.mono sv)
        clear q3 q2 sv
        go_wp2
        go_roundw
        case rel => first | exact ⟨k + 1, p, g, l2, by omega, by go_num, rfl, hl16.out, HB2.out, q4⟩ | ((repeat apply Exists.intro); refine ⟨⟨k + 1, p, g, l2, by omega, by go_num, rfl, hl16.out, HB2.out, q4⟩, ?_⟩; and_intros <;> rfl)
        case measure => simp [intOf]; omega
    · obtain rfl : k = len := by omega
      have hd : decide (k < k) = false := decide_eq_false (by omega)
      have sw := hbw.size
      go_wp2_with fail
      refine (awake_true _).mono ?_
      rintro e v9 ⟨rfl, hb⟩
      have b9 := hbw.trans (hb.mono sw)
      clear hb
      go_wp2
      go_ret
      exact ⟨rfl, b9⟩
theorem script_walk (a0 : Int) (a1 : Option Addr) (len1 cap1 : Nat) (xs1 : Nat → kt.Act) (w : World) (w0 : (Lit.int .i64 a0).wf = true) (w1 : kt.Acts w a1 len1 xs1) :
    Calls Try.prog 6 #[.int .i64 a0, .slice a1 len1 cap1] w fun e w' => e = .returned (.bool true) ∧ Below w.heap.size w w' := by
  cases hlg : kt.longB len1 xs1 with
  | true => exact script_long a1 len1 cap1 xs1 a0 w w1 hlg
  | false =>
    by_cases hs : a0 < 16 ∨ 65536 < a0
    · exact script_none a1 len1 cap1 xs1 a0 w w1 hlg hs
    · obtain ⟨s, rfl⟩ : ∃ s : Nat, a0 = s := ⟨a0.toNat, by omega⟩
      exact script_core a1 len1 cap1 xs1 s w w1 hlg (by omega) (by omega)
end Go.Proofs.Ytkohmoekomegnaa
