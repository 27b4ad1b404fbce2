/- One call of both memories: they answer alike and stay alike. -/
import Derived.Test.YtkohmoekomegnaaMemKeep
import Derived.Deep.RegionHeld3
namespace Go.Proofs.Ytkohmoekomegnaa
open Go.RowKit
set_option linter.unusedVariables false

/-- both memories hold the bytes l, each its own; they lie from block B on -/
structure Both (B : Nat) (w : World) (p g p' g' : Nat) (l : List Int) : Prop where
  m : IsMem w p g l
  r : IsRef w p' g' l
  d1 : p ≠ g'
  d2 : g ≠ g'
  d3 : p' ≠ g
  b1 : B ≤ g
  b2 : B ≤ g'
theorem Both.size {B : Nat} {w : World} {p g p' g' : Nat} {l : List Int} (h : Both B w p g p' g' l) : B ≤ w.heap.size := Nat.le_trans h.b1 (Nat.le_of_lt h.m.lt.2)
theorem Both.keep {B : Nat} {w w' : World} {p g p' g' : Nat} {l : List Int} (h : Both B w p g p' g' l) (hb : Below w.heap.size w w') : Both B w' p g p' g' l :=
  ⟨h.m.keep hb, ⟨h.r.apart, by obtain ⟨cap, h1, h2⟩ := h.r.head; exact ⟨cap, h1, (hb.block p' h.r.lt.1).trans h2⟩, by obtain ⟨rest, h1⟩ := h.r.row; exact ⟨rest, (hb.block g' h.r.lt.2).trans h1⟩, h.r.bytes, h.r.size⟩, h.d1, h.d2, h.d3, h.b1, h.b2⟩
theorem Both.keepC {B C : Nat} {w w' : World} {p g p' g' : Nat} {l : List Int} (h : Both B w p g p' g' l) (hb : Below C w w') (hC : (p < C ∧ g < C) ∧ p' < C ∧ g' < C) : Both B w' p g p' g' l :=
  ⟨h.m.kept (hb.block p hC.1.1) (hb.block g hC.1.2), h.r.kept (hb.block p' hC.2.1) (hb.block g' hC.2.2), h.d1, h.d2, h.d3, h.b1, h.b2⟩
/-- what a call leaves: both are alike again -/
def DonePost (B : Nat) (p g p' g' n : Nat) (w : World) (e : Ending) (w' : World) : Prop := e = .returned (.bool true) ∧ Below B w w' ∧ ∃ l, l.length = n ∧ Both B w' p g p' g' l
/-- the box of a call's copy -/
abbrev actBox (kd xn xa xv : Int) (ba : Option Addr) (bn bc : Nat) : Obj := .cells #[.int .i64 kd, .int .i64 xn, .int .u64 xa, .int .u64 xv, .slice ba bn bc] 45
theorem over_own (B : Nat) (a : Option Addr) (n c : Nat) (l : List Int) (w : World) (h : kt.Own kt.IsU8 w B 5 1 (.slice a n c) n (l.map (Value.int .u8))) :
    Calls Try.prog 39 #[.slice a n c] w fun e w' => e = .returned (.tuple #[]) ∧ Below B w w' := by
  rcases h.2 with ⟨hv, h0⟩ | ⟨gp, cp, cur, hv, q1, q2, q3, q4, q5, -, q7⟩
  · simp only [Value.slice.injEq] at hv
    obtain ⟨rfl, rfl, rfl⟩ := hv
    exact (over_nil 0 w).mono fun e w' q => ⟨q.1, by rw [← q.2]; exact Below.refl _ _⟩
  · simp only [Value.slice.injEq] at hv
    obtain ⟨rfl, -, rfl⟩ := hv
    exact (over_any gp n c cur w q2 (by omega) q3 (by unfold maxLen at q4; omega) q7).mono fun e w' q => ⟨q.1, q.2.below q1⟩
set_option maxRecDepth 100000 in
set_option maxHeartbeats 1600000 in
theorem does_load (B p g p' g' : Nat) (l : List Int) (kd xn xa xv : Int) (ba : Option Addr) (bn bc : Nat) (w : World) (h : Both B w p g p' g' l) (hk : kd = 0 ∨ kd = 1) (a0 : 0 ≤ xa) (a1 : xa < 18446744073709551616) :
    Calls Try.prog 24 #[.pointer (some ⟨p, 0, none⟩), .pointer (some ⟨p', 0, none⟩), .agg #[.int .i64 kd, .int .i64 xn, .int .u64 xa, .int .u64 xv, .slice ba bn bc]] w (DonePost B p g p' g' l.length w) := by
  have H1 := bl.hid (h.keep (kt.below_row (actBox kd xn xa xv ba bn bc)))
  have hB := h.size
  clear h
  rcases hk with rfl | rfl
  all_goals
    go_enter Try.func24, Try.ntmps24
    go_wp2_with fail
    refine (load_any p g xa xn l _ H1.out.m a0 a1).mono ?_
    rintro e w2 ⟨rfl, hb⟩
    have hb2 : Below w.heap.size w w2 := (kt.below_row _).trans (hb.mono (by rw [World.size_alloc]; omega))
    have H2 := bl.hid (H1.out.keep hb)
    have c1 := hb.cell (p := ⟨w.heap.size, 1, none⟩) (by simp)
    have c2 := hb.cell (p := ⟨w.heap.size, 2, none⟩) (by simp)
    simp at c1 c2
    clear hb H1
    go_wp2_with fail
    refine (rload_any p' g' xa xn l _ H2.out.r a0 a1).mono ?_
    rintro e w' ⟨rfl, rfl⟩
    go_wp2
    go_ret
    exact ⟨bl.ret1 (bl.bool_eq (by simp)), hb2.mono hB, l, rfl, H2.out⟩
set_option maxRecDepth 100000 in
set_option maxHeartbeats 1600000 in
theorem does_other (B p g p' g' : Nat) (l : List Int) (kd xn xa xv : Int) (ba : Option Addr) (bn bc : Nat) (w : World) (h : Both B w p g p' g' l) (hk : kd < 0 ∨ 5 < kd) :
    Calls Try.prog 24 #[.pointer (some ⟨p, 0, none⟩), .pointer (some ⟨p', 0, none⟩), .agg #[.int .i64 kd, .int .i64 xn, .int .u64 xa, .int .u64 xv, .slice ba bn bc]] w (DonePost B p g p' g' l.length w) := by
  have H1 := bl.hid (h.keep (kt.below_row (actBox kd xn xa xv ba bn bc)))
  have hB := h.size
  have k0 : (kd == 0) = false := by simp; omega
  have k1 : (kd == 1) = false := by simp; omega
  have k2 : (kd == 2) = false := by simp; omega
  have k3 : (kd == 3) = false := by simp; omega
  have k4 : (kd == 4) = false := by simp; omega
  have k5 : (kd == 5) = false := by simp; omega
  clear h hk
  go_enter Try.func24, Try.ntmps24
  go_wp2
  go_ret
  exact ⟨rfl, (kt.below_row _).mono hB, l, rfl, H1.out⟩
set_option maxRecDepth 100000 in
set_option maxHeartbeats 1600000 in
theorem does_bytes (B p g p' g' : Nat) (l : List Int) (xn xa xv : Int) (ba : Option Addr) (bn bc : Nat) (w : World) (h : Both B w p g p' g' l) (a0 : 0 ≤ xa) (a1 : xa < 18446744073709551616) (n1 : xn < 9223372036854775808) :
    Calls Try.prog 24 #[.pointer (some ⟨p, 0, none⟩), .pointer (some ⟨p', 0, none⟩), .agg #[.int .i64 4, .int .i64 xn, .int .u64 xa, .int .u64 xv, .slice ba bn bc]] w (DonePost B p g p' g' l.length w) := by
  have H1 := bl.hid (h.keep (kt.below_row (actBox 4 xn xa xv ba bn bc)))
  have HLT := bl.hid (And.intro H1.out.m.lt H1.out.r.lt)
  have hB := h.size
  have HBY := bl.hid (pl.byL_bytes h.m.bytes xa xn)
  clear h
  go_enter Try.func24, Try.ntmps24
  go_wp2_with fail
  refine (bytes_any p g xa xn l _ H1.out.m a0 a1 n1).mono ?_
  rintro e w2 ⟨ma, mc, rfl, hown, hb⟩
  have hb2 : Below w.heap.size w w2 := (kt.below_row _).trans (hb.mono (by rw [World.size_alloc]; omega))
  have H2 := bl.hid (H1.out.keep hb)
  have c1 := hb.cell (p := ⟨w.heap.size, 1, none⟩) (by simp)
  have c2 := hb.cell (p := ⟨w.heap.size, 2, none⟩) (by simp)
  simp at c1 c2
  have HO := bl.hid hown
  have s2 := hb2.size
  have HS := bl.hid hb.size
  clear hb H1 hown
  go_wp2_with fail
  refine (rbytes_any p' g' xa xn l _ H2.out.r a0 a1 n1).mono ?_
  rintro e w3 ⟨ra, rc, rfl, hownr, hb⟩
  have hb3 := hb2.trans (hb.mono s2)
  have H3 := bl.hid (H2.out.keep hb)
  have HO3 := bl.hid (HO.out.below hb (Nat.le_refl _))
  have HOR := bl.hid hownr
  have s3 := hb3.size
  have HS3 := bl.hid (Nat.le_trans HS.out hb.size)
  clear hb hownr HO H2 hb2
  go_wp2_with fail
  refine (same_yes _ _ _ _ _ _ _ _ _ (Rd_own HBY.out HO3.out) (Rd_own HBY.out HOR.out) rfl).mono ?_
  rintro e w' ⟨rfl, rfl⟩
  go_wp2_with fail
  refine (over_own _ _ _ _ _ _ HO3.out).mono ?_
  rintro e w4 ⟨rfl, hb⟩
  have hb4 : Below B w w4 := (hb3.mono hB).trans (hb.mono (by rw [World.size_alloc]; omega))
  have H4 : Hid (Both B w4 p g p' g' l) := bl.hid (H3.out.keepC hb HLT.out)
  clear hb H3 HO3 HOR
  go_wp2
  go_ret
  exact ⟨bl.ret1 (bl.bool_eq (by simp)), hb4, l, rfl, H4.out⟩
end Go.Proofs.Ytkohmoekomegnaa
