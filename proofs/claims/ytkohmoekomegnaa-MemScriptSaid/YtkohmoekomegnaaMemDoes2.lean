/- One call of both memories: Store and Lay. -/
import Derived.Test.YtkohmoekomegnaaMemDoes
namespace Go.Proofs.Ytkohmoekomegnaa
open Go.RowKit
set_option linter.unusedVariables false

/-- the cells of the box at block b that a region reads -/
def BoxAt (w : World) (b : Nat) (xn xa xv : Int) : Prop :=
  w.cell? ⟨b, 1, none⟩ = some (.int .i64 xn) ∧ w.cell? ⟨b, 2, none⟩ = some (.int .u64 xa) ∧ w.cell? ⟨b, 3, none⟩ = some (.int .u64 xv)
/-- behind the memory's store: the box is as it was, and so is the reference's memory -/
theorem does_mid {B b p g p' g' : Nat} {l l2 : List Int} {w1 w2 : World} {xn xa xv : Int} (h : Both B w1 p g p' g' l) (hc : BoxAt w1 b xn xa xv) (hbl : b < w1.heap.size) (hbg : b ≠ g) (hgr : w1.drew.grownBy w2 (some g)) (hm : IsMem w2 p g l2) :
    (w2.cell? ⟨b, 1, none⟩ = some (.int .i64 xn) ∧ w2.cell? ⟨b, 2, none⟩ = some (.int .u64 xa) ∧ w2.cell? ⟨b, 3, none⟩ = some (.int .u64 xv)) ∧ IsRef w2 p' g' l := by
  obtain ⟨c1, c2, c3⟩ := hc
  have hk : w2.heap[b]? = w1.heap[b]? := hgr.block b hbl (by simpa using hbg)
  exact ⟨⟨(cell_of_same hk).trans c1, (cell_of_same hk).trans c2, (cell_of_same hk).trans c3⟩, h.r.kept (hgr.block p' h.r.lt.1 (by simpa using h.d3)) (hgr.block g' h.r.lt.2 (by simpa using Ne.symm h.d2))⟩
/-- behind the reference's store -/
theorem does_end {b p g g' : Nat} {l2 : List Int} {w2 w3 : World} {xn xa xv : Int} (hm : IsMem w2 p g l2) (d1 : p ≠ g') (d2 : g ≠ g') (hbg : b ≠ g') (ho : kt.Only g' w2 w3)
    (hc : w2.cell? ⟨b, 1, none⟩ = some (.int .i64 xn) ∧ w2.cell? ⟨b, 2, none⟩ = some (.int .u64 xa) ∧ w2.cell? ⟨b, 3, none⟩ = some (.int .u64 xv)) :
    (w3.cell? ⟨b, 1, none⟩ = some (.int .i64 xn) ∧ w3.cell? ⟨b, 2, none⟩ = some (.int .u64 xa) ∧ w3.cell? ⟨b, 3, none⟩ = some (.int .u64 xv)) ∧ IsMem w3 p g l2 := by
  have hk : w3.heap[b]? = w2.heap[b]? := ho.block b hbg
  exact ⟨⟨(cell_of_same hk).trans hc.1, (cell_of_same hk).trans hc.2.1, (cell_of_same hk).trans hc.2.2⟩, hm.kept (ho.block p d1) (ho.block g d2)⟩
set_option maxRecDepth 100000 in
set_option maxHeartbeats 3200000 in
theorem does_store (B p g p' g' : Nat) (l : List Int) (kd xn xa xv : Int) (ba : Option Addr) (bn bc : Nat) (w : World) (h : Both B w p g p' g' l) (hk : kd = 2 ∨ kd = 3) (a0 : 0 ≤ xa) (a1 : xa < 18446744073709551616) (v0 : 0 ≤ xv) (v1 : xv < 18446744073709551616) :
    Calls Try.prog 24 #[.pointer (some ⟨p, 0, none⟩), .pointer (some ⟨p', 0, none⟩), .agg #[.int .i64 kd, .int .i64 xn, .int .u64 xa, .int .u64 xv, .slice ba bn bc]] w (DonePost B p g p' g' l.length w) := by
  have H1 := bl.hid (h.keep (kt.below_row (actBox kd xn xa xv ba bn bc)))
  have HC : Hid (BoxAt (w.alloc (actBox kd xn xa xv ba bn bc)) w.heap.size xn xa xv) := bl.hid ⟨by simp, by simp, by simp⟩
  have hbg : w.heap.size ≠ g := by have := h.m.lt; omega
  have hbg' : w.heap.size ≠ g' := by have := h.r.lt; omega
  have hB := h.size
  have d1 := h.d1
  have d2 := h.d2
  have B1 := h.b1
  have B2 := h.b2
  clear h
  rcases hk with rfl | rfl
  all_goals
    go_enter Try.func24, Try.ntmps24
    go_wp2_with fail
    go_region_held3 (fun w' => w'.cell? ⟨w.heap.size, 1, none⟩ = some (.int .i64 xn) ∧ w'.cell? ⟨w.heap.size, 2, none⟩ = some (.int .u64 xa) ∧ w'.cell? ⟨w.heap.size, 3, none⟩ = some (.int .u64 xv)) ((first | assumption | go_keep))
      ((first
        | (go_at_call 15; refine (store_any p g xa xn xv l _ H1.out.m.drew a0 a1 v0 v1).mono ?_; rintro e w2 ⟨rfl, hgr, hm⟩; have hmid := does_mid H1.out HC.out (by simp) hbg hgr hm; have hcc := hmid.1; have HR := bl.hid hmid.2; clear hmid; have HM := bl.hid hm; have hb2 : Below B w w2 := (((kt.below_row _).mono hB).drew).trans (grown_below hgr B1 (by simp; omega)); clear hgr hm)
        | (go_at_call 37; refine (rstore_any p' g' xa xn xv l _ HR.out a0 a1 v0 v1).mono ?_; rintro e w3 ⟨rfl, ho, hr⟩; have hend := does_end HM.out d1 d2 hbg' ho hcc; have hcd := hend.1; have HM3 := bl.hid hend.2; clear hend; have HR3 := bl.hid hr; have hb3 : Below B w w3 := hb2.trans (ho.below B2); clear ho hr hcc)))
    go_wp2
    go_ret
    exact ⟨bl.ret1 (bl.bool_eq (by simp)), hb3, _, pl.stL_length l xa xn xv, ⟨HM3.out, HR3.out, d1, d2, H1.out.d3, B1, B2⟩⟩
end Go.Proofs.Ytkohmoekomegnaa
