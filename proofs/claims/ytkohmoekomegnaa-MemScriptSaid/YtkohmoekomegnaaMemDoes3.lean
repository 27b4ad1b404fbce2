/- One call of both memories: Lay; and any call. -/
import Derived.Test.YtkohmoekomegnaaMemDoes2
namespace Go.Proofs.Ytkohmoekomegnaa
open Go.RowKit
set_option linter.unusedVariables false

theorem rlay_zero (p g : Nat) (at' : Int) (sc : Nat) (sa : Option Addr) (l : List Int) (w : World) (h : IsRef w p g l) (a0 : 0 ≤ at') (a1 : at' < 18446744073709551616) :
    Calls Try.prog 41 #[.pointer (some ⟨p, 0, none⟩), .int .u64 at', .slice sa 0 sc] w (RLayPost p g l at' [] w) := by
  obtain ⟨cap, hcap, hc⟩ := h.cell
  have hL := h.size
  have H := bl.hid h
  have HE : Hid (pl.layL l at' [] = l) := bl.hid (by unfold pl.layL pl.lay; split <;> simp)
  clear h
  cases hf : pl.fit l at' 0 with
  | true =>
    have HF := bl.hid hf
    have HC : Hid (pl.layE l at' ([] : List Int).length = 0) := bl.hid (by show pl.layE l at' 0 = 0; simp [pl.layE, hf])
    clear hf
    go_enter Try.func41, Try.ntmps41
    go_wp2_with fail
    refine (rfits_any p g 0 cap l at' 0 _ hc hL a0 a1 (by omega)).mono ?_
    rw [HF.out]
    rintro e w' ⟨rfl, rfl⟩
    go_wp2
    refine wp_loop_rounds 1 ?_
    rw [rounds_succ]
    go_wp2
    go_ret
    exact ⟨bl.ret1 (bl.int_eq HC.out.symm), kt.Only.refl _ _, by rw [HE.out]; exact H.out⟩
  | false =>
    have HF := bl.hid hf
    have HC : Hid (pl.layE l at' ([] : List Int).length = 15) := bl.hid (by show pl.layE l at' 0 = 15; simp [pl.layE, hf])
    clear hf
    go_enter Try.func41, Try.ntmps41
    go_wp2_with fail
    refine (rfits_any p g 0 cap l at' 0 _ hc hL a0 a1 (by omega)).mono ?_
    rw [HF.out]
    rintro e w' ⟨rfl, rfl⟩
    go_wp2
    go_ret
    exact ⟨bl.ret1 (bl.int_eq HC.out.symm), kt.Only.refl _ _, by rw [HE.out]; exact H.out⟩
theorem rlay_some (p g : Nat) (at' : Int) (n sc : Nat) (sa : Option Addr) (bs : List Int) (l : List Int) (w : World) (h : IsRef w p g l) (hr : kt.Rd w sa n bs) (hsg : ∀ ad, sa = some ad → n = 0 ∨ ad.block ≠ g) (a0 : 0 ≤ at') (a1 : at' < 18446744073709551616) (n1 : n < 9223372036854775808) :
    Calls Try.prog 41 #[.pointer (some ⟨p, 0, none⟩), .int .u64 at', .slice sa n sc] w (RLayPost p g l at' bs w) := by
  by_cases h0 : n = 0
  · subst h0
    obtain rfl : bs = [] := List.eq_nil_of_length_eq_zero hr.1
    exact rlay_zero p g at' sc sa l w h a0 a1
  · exact rlay_any p g at' n sc sa bs l w h hr (fun ad e => (hsg ad e).resolve_left h0) a0 a1 n1
theorem over_lent (B gi n cap : Nat) (xs : List Value) (w : World) (h : kt.Own kt.IsU8 w B 5 1 (.slice (some ⟨gi, 0, none⟩) (n + 3) cap) (n + 3) xs) (hn : n ≤ 1000000) :
    Calls Try.prog 39 #[.slice (some ⟨gi, 0, none⟩) n (n + 3)] w fun e w' => e = .returned (.tuple #[]) ∧ Below B w w' := by
  rcases h.2 with ⟨hv, h0⟩ | ⟨gp, cp, cur, hv, q1, q2, q3, q4, q5, -, q7⟩
  · omega
  · simp only [Value.slice.injEq, Option.some.injEq, Addr.mk.injEq] at hv
    obtain ⟨⟨rfl, -, -⟩, -, rfl⟩ := hv
    exact (over_any gi n (n + 3) cur w q2 (by omega) (by omega) (by omega) q7).mono fun e w' q => ⟨q.1, q.2.below q1⟩
/-- what stands while the law lays bytes in both: what was lent, and what came in -/
structure Lent (w : World) (C gi cap bn : Nat) (ba : Option Addr) (bs : List Int) : Prop where
  own : kt.Own kt.IsU8 w C 5 1 (.slice (some ⟨gi, 0, none⟩) (bn + 3) cap) (bn + 3) ((bs ++ [77, 201, 5]).map (Value.int .u8))
  came : kt.Rd w ba bn bs
theorem Lent.all {w : World} {C gi cap bn : Nat} {ba : Option Addr} {bs : List Int} (h : Lent w C gi cap bn ba bs) : kt.Rd w (some ⟨gi, 0, none⟩) (bn + 3) (bs ++ [77, 201, 5]) :=
  Rd_own (by intro z hz; rcases List.mem_append.1 hz with hz | hz; exact h.came.2.1 z hz; simp at hz; omega) h.own
theorem Lent.part {w : World} {C gi cap bn : Nat} {ba : Option Addr} {bs : List Int} (h : Lent w C gi cap bn ba bs) : kt.Rd w (some ⟨gi, 0, none⟩) bn bs := (Rd_append (m := [77, 201, 5]) h.all h.came.1).1
theorem Lent.grown {w w' : World} {C gi cap bn g : Nat} {ba : Option Addr} {bs : List Int} (h : Lent w C gi cap bn ba bs) (hgr : w.grownBy w' (some g)) (h1 : gi ≠ g) (h2 : ∀ ad, ba = some ad → bn = 0 ∨ ad.block ≠ g) : Lent w' C gi cap bn ba bs := by
  refine ⟨h.own.grown hgr (fun k hk => by cases hk; simpa using h1), ?_⟩
  by_cases h0 : bn = 0
  · exact ⟨h.came.1, h.came.2.1, .inl h0⟩
  · exact Rd_grown h.came hgr fun ad e => (h2 ad e).resolve_left h0
theorem Lent.only {w w' : World} {C gi cap bn g : Nat} {ba : Option Addr} {bs : List Int} (h : Lent w C gi cap bn ba bs) (ho : kt.Only g w w') (h1 : gi ≠ g) (h2 : ∀ ad, ba = some ad → bn = 0 ∨ ad.block ≠ g) : Lent w' C gi cap bn ba bs := by
  refine ⟨h.own.kept (fun k hk => by cases hk; exact ho.block gi h1), ?_⟩
  by_cases h0 : bn = 0
  · exact ⟨h.came.1, h.came.2.1, .inl h0⟩
  · exact Rd_only h.came ho fun ad e => (h2 ad e).resolve_left h0
theorem Lent.keep {w w' : World} {C gi cap bn : Nat} {ba : Option Addr} {bs : List Int} (h : Lent w C gi cap bn ba bs) (hb : Below w.heap.size w w') : Lent w' C gi cap bn ba bs := ⟨h.own.below hb (Nat.le_refl _), h.came.keep hb⟩
theorem Lent.drew {w : World} {C gi cap bn : Nat} {ba : Option Addr} {bs : List Int} (h : Lent w C gi cap bn ba bs) : Lent w.drew C gi cap bn ba bs := ⟨h.own.kept fun _ _ => rfl, Rd_drew h.came⟩
/-- behind a store into block g the box's two cells are as they were -/
theorem box_grown {b g : Nat} {w1 w2 : World} {xa : Int} {ba : Option Addr} {bn bc : Nat} (hc : w1.cell? ⟨b, 2, none⟩ = some (.int .u64 xa) ∧ w1.cell? ⟨b, 4, none⟩ = some (.slice ba bn bc)) (hbl : b < w1.heap.size) (hbg : b ≠ g) (hgr : w1.grownBy w2 (some g)) :
    w2.cell? ⟨b, 2, none⟩ = some (.int .u64 xa) ∧ w2.cell? ⟨b, 4, none⟩ = some (.slice ba bn bc) := by
  have hk : w2.heap[b]? = w1.heap[b]? := hgr.block b hbl (by simpa using hbg)
  exact ⟨(cell_of_same hk).trans hc.1, (cell_of_same hk).trans hc.2⟩
theorem box_only {b g : Nat} {w1 w2 : World} {xa : Int} {ba : Option Addr} {bn bc : Nat} (hc : w1.cell? ⟨b, 2, none⟩ = some (.int .u64 xa) ∧ w1.cell? ⟨b, 4, none⟩ = some (.slice ba bn bc)) (hbg : b ≠ g) (ho : kt.Only g w1 w2) :
    w2.cell? ⟨b, 2, none⟩ = some (.int .u64 xa) ∧ w2.cell? ⟨b, 4, none⟩ = some (.slice ba bn bc) :=
  ⟨(cell_of_same (ho.block b hbg)).trans hc.1, (cell_of_same (ho.block b hbg)).trans hc.2⟩
theorem box_keep {b : Nat} {w1 w2 : World} {xa : Int} {ba : Option Addr} {bn bc : Nat} (hc : w1.cell? ⟨b, 2, none⟩ = some (.int .u64 xa) ∧ w1.cell? ⟨b, 4, none⟩ = some (.slice ba bn bc)) (hb : Below w1.heap.size w1 w2) :
    w2.cell? ⟨b, 2, none⟩ = some (.int .u64 xa) ∧ w2.cell? ⟨b, 4, none⟩ = some (.slice ba bn bc) :=
  ⟨(hb.cell (p := ⟨b, 2, none⟩) (block_lt_of_cell hc.1)).trans hc.1, (hb.cell (p := ⟨b, 4, none⟩) (block_lt_of_cell hc.2)).trans hc.2⟩
set_option maxRecDepth 100000 in
set_option maxHeartbeats 3200000 in
theorem does_lay (B p g p' g' : Nat) (l : List Int) (xn xa xv : Int) (ba : Option Addr) (bn bc : Nat) (bs : List Int) (w : World) (h : Both B w p g p' g' l) (a0 : 0 ≤ xa) (a1 : xa < 18446744073709551616) (hr : kt.Rd w ba bn bs) (hn : bn ≤ 200) (hbb : ∀ ad, ba = some ad → bn = 0 ∨ ad.block < B) :
    Calls Try.prog 24 #[.pointer (some ⟨p, 0, none⟩), .pointer (some ⟨p', 0, none⟩), .agg #[.int .i64 5, .int .i64 xn, .int .u64 xa, .int .u64 xv, .slice ba bn bc]] w (DonePost B p g p' g' l.length w) := by
  have H1 := bl.hid (h.keep (kt.below_row (actBox 5 xn xa xv ba bn bc)))
  have HR1 := bl.hid (hr.keep (kt.below_row (actBox 5 xn xa xv ba bn bc)))
  have HLT := bl.hid (And.intro h.m.lt h.r.lt)
  have hbg : w.heap.size ≠ g := by have := h.m.lt; omega
  have hbg' : w.heap.size ≠ g' := by have := h.r.lt; omega
  have hB := h.size
  have d1 := h.d1
  have d2 := h.d2
  have B1 := h.b1
  have B2 := h.b2
  have HN1 : Hid (∀ ad, ba = some ad → bn = 0 ∨ ad.block ≠ g) := bl.hid fun ad e => (hbb ad e).imp_right fun q => by omega
  have HN2 : Hid (∀ ad, ba = some ad → bn = 0 ∨ ad.block ≠ g') := bl.hid fun ad e => (hbb ad e).imp_right fun q => by omega
  have HLB := bl.hid hr.1
  clear h hr hbb
  go_enter Try.func24, Try.ntmps24
  go_wp2_with fail
  refine (lent_any ba bn bc bs _ HR1.out (by omega)).mono ?_
  rintro e w2 ⟨gi, cap, rfl, hown, hb⟩
  have hgi : w.heap.size + 1 ≤ gi ∧ gi < w2.heap.size := by have := hown.lt gi rfl; simpa using this
  have hg1 : gi ≠ g := by have := HLT.out; omega
  have hg2 : gi ≠ g' := by have := HLT.out; omega
  have H2 := bl.hid (H1.out.keep hb)
  have HLE : Hid (Lent w2 (w.heap.size + 1) gi cap bn ba bs) := bl.hid ⟨by simpa using hown, HR1.out.keep hb⟩
  have hc := box_keep (b := w.heap.size) (xa := xa) (ba := ba) (bn := bn) (bc := bc) (w1 := w.alloc (actBox 5 xn xa xv ba bn bc)) ⟨by simp, by simp⟩ hb
  have hb2 : Below B w w2 := ((kt.below_row _).mono hB).trans (hb.mono (by rw [World.size_alloc]; omega))
  have s2 : w.heap.size < w2.heap.size := by omega
  have hcA := hc.1
  have hcB := hc.2
  have HC := bl.hid hc
  clear hown hb H1 HR1 hc
  go_wp2_with fail
  go_region_held3 (fun w' => w'.cell? ⟨w.heap.size, 2, none⟩ = some (.int .u64 xa) ∧ w'.cell? ⟨w.heap.size, 4, none⟩ = some (.slice ba bn bc)) ((first | assumption | go_keep))
    ((first
      | (go_at_call 10; refine (lay_any p g xa bn (bn + 3) _ bs l _ H2.out.m.drew HLE.out.drew.part a0 a1 (by omega)).mono ?_; rintro e w3 ⟨rfl, hgr, hm⟩; have hcc := box_grown (w1 := w2.drew) HC.out s2 hbg hgr; have HR3 := bl.hid (H2.out.r.drew.kept (hgr.block p' H2.out.r.lt.1 (by simpa using H2.out.d3)) (hgr.block g' H2.out.r.lt.2 (by simpa using Ne.symm d2))); have HM3 := bl.hid hm; have HL3 := bl.hid (HLE.out.drew.grown hgr hg1 HN1.out); have hb3 : Below B w w3 := hb2.drew.trans (grown_below hgr B1 (Nat.le_trans hB hb2.drew.size)); clear hgr hm)
      | (go_at_call 41; refine (rlay_some p' g' xa bn bc ba bs l _ HR3.out HL3.out.came HN2.out a0 a1 (by omega)).mono ?_; rintro e w4 ⟨rfl, ho, hr⟩; have hcd := box_only hcc hbg' ho; have HM4 := bl.hid (HM3.out.kept (ho.block p d1) (ho.block g d2)); have HR4 := bl.hid hr; have HL4 := bl.hid (HL3.out.only ho hg2 HN2.out); have hb4 : Below B w w4 := hb3.trans (ho.below B2); clear ho hr)
      | (go_at_call 42; refine (kept_yes gi ba bn bc bs _ HL4.out.all HL4.out.came (by omega) (HL4.out.own.lt gi rfl).2).mono ?_; rintro e w5 ⟨rfl, hb⟩; have hce := box_keep hcd hb; have HM5 := bl.hid (HM4.out.keep hb); have HR5 := bl.hid (show IsRef w5 p' g' _ from HR4.out.kept (hb.block p' HR4.out.lt.1) (hb.block g' HR4.out.lt.2)); have HL5 := bl.hid (HL4.out.keep hb); have hb5 : Below B w w5 := hb4.trans (hb.mono (Nat.le_trans hB hb4.size)); clear hb)))
  go_wp2_with fail
  refine (over_lent (w.heap.size + 1) gi bn cap _ _ HL5.out.own (by omega)).mono ?_
  rintro e w6 ⟨rfl, hb⟩
  have hb6 : Below B w w6 := hb5.trans (hb.mono (by omega))
  have HM6 := bl.hid (HM5.out.kept (hb.block p (by have := HLT.out; omega)) (hb.block g (by have := HLT.out; omega)))
  have HR6 := bl.hid (HR5.out.kept (hb.block p' (by have := HLT.out; omega)) (hb.block g' (by have := HLT.out; omega)))
  clear hb
  go_wp2
  go_ret
  exact ⟨bl.ret1 (bl.bool_eq (by simp)), hb6, _, pl.layL_length l xa bs, ⟨HM6.out, HR6.out, d1, d2, H2.out.d3, B1, B2⟩⟩
/-- any call, of both memories -/
theorem does_any (B p g p' g' : Nat) (l : List Int) (kd xn xa xv : Int) (ba : Option Addr) (bn bc : Nat) (bs : List Int) (w : World) (h : Both B w p g p' g' l) (hx : kt.ActOk w ⟨kd, xn, xa, xv, ba, bn, bc, bs⟩) (hn : bn ≤ 200) (hbb : ∀ ad, ba = some ad → bn = 0 ∨ ad.block < B) :
    Calls Try.prog 24 #[.pointer (some ⟨p, 0, none⟩), .pointer (some ⟨p', 0, none⟩), .agg #[.int .i64 kd, .int .i64 xn, .int .u64 xa, .int .u64 xv, .slice ba bn bc]] w (DonePost B p g p' g' l.length w) := by
  have xa0 : 0 ≤ xa := hx.a0.1
  have xa1 : xa < 18446744073709551616 := hx.a0.2
  have xv0 : 0 ≤ xv := hx.v0.1
  have xv1 : xv < 18446744073709551616 := hx.v0.2
  have xn1 : xn ≤ 9223372036854775807 := hx.n0.2
  by_cases k0 : kd = 0 ∨ kd = 1
  · exact does_load B p g p' g' l kd xn xa xv ba bn bc w h k0 xa0 xa1
  · by_cases k2 : kd = 2 ∨ kd = 3
    · exact does_store B p g p' g' l kd xn xa xv ba bn bc w h k2 xa0 xa1 xv0 xv1
    · by_cases k4 : kd = 4
      · subst k4
        exact does_bytes B p g p' g' l xn xa xv ba bn bc w h xa0 xa1 (by omega)
      · by_cases k5 : kd = 5
        · subst k5
          exact does_lay B p g p' g' l xn xa xv ba bn bc bs w h xa0 xa1 hx.rd hn hbb
        · exact does_other B p g p' g' l kd xn xa xv ba bn bc w h (by omega)
end Go.Proofs.Ytkohmoekomegnaa
