/- MemNone, walked, over what came in. -/
import Derived.Test.YtkohmoekomegnaaMemNone
namespace Go.Proofs.Ytkohmoekomegnaa
open Go.RowKit Go.Deep Go.Joins Go.ChangeShapes Go.WideShapes
set_option linter.unusedVariables false

set_option maxRecDepth 100000 in
set_option maxHeartbeats 800000 in
theorem none_long (kd xn xa xv : Int) (ba : Option Addr) (bn bc : Nat) (bs : List Int) (w : World) (h : kt.ActOk w ⟨kd, xn, xa, xv, ba, bn, bc, bs⟩) (hn : 200 < bn) :
    Calls Try.prog 7 #[.agg #[.int .i64 kd, .int .i64 xn, .int .u64 xa, .int .u64 xv, .slice ba bn bc]] w fun e w' => e = .returned (.bool true) ∧ Below w.heap.size w w' := by
  have H1 : Hid (kt.Acts ((w.alloc (actBox kd xn xa xv ba bn bc)).alloc (actBox kd xn xa xv ba bn bc)) (some ⟨w.heap.size + 1, 0, none⟩) 1 (fun _ => ⟨kd, xn, xa, xv, ba, bn, bc, bs⟩)) := bl.hid (by
    have := one_act (w.alloc (actBox kd xn xa xv ba bn bc)) kd xn xa xv ba bn bc bs (h.keep (kt.below_row _))
    rwa [World.size_alloc] at this)
  have HG : Hid (kt.longB 1 (fun _ => ⟨kd, xn, xa, xv, ba, bn, bc, bs⟩) = true) := bl.hid (by
    unfold kt.longB
    rw [decide_eq_true ⟨0, by omega, hn⟩]
    rfl)
  have hb2 : Below w.heap.size w ((w.alloc (actBox kd xn xa xv ba bn bc)).alloc (actBox kd xn xa xv ba bn bc)) := ((Below.refl w.heap.size w).alloc (Nat.le_refl _) _).alloc (by rw [World.size_alloc]; omega) _
  clear h hn
  go_enter Try.func7, Try.ntmps7
  go_wp2_with fail
  refine (long_any _ 1 1 _ _ H1.out).mono ?_
  rw [HG.out]
  rintro e w' ⟨rfl, rfl⟩
  go_wp2_with fail
  refine (awake_true _).mono ?_
  rintro e w1 ⟨rfl, hb⟩
  have b := hb2.trans (hb.mono (by simp; omega))
  go_wp2
  go_ret
  exact ⟨rfl, b⟩
theorem act_agg_come {H : Type} {enc : TypeId × Value → H} {w : World} {r : Reach} {b0 base : Nat} {held : Bool} {v : Value} {d : DataW H} {p : List MemPlace} (hv : Value.okWide Try.prog w r b0 45 v)
    (h : DataW.Trod enc Try.prog w base (fun _ => true) held 45 v d p) :
    ∃ x : kt.Act, v = .agg #[.int .i64 x.kind, .int .i64 x.n, .int .u64 x.at', .int .u64 x.v, .slice x.ba x.bl x.bc] ∧ kt.ActOk w x := by
  obtain ⟨cs, rfl, hsz⟩ := okWide_struct Try.underlying45 hv
  obtain ⟨fuel, hf⟩ := h
  obtain ⟨x, hc, hx⟩ := act_come (fun _ => rfl) hf
  refine ⟨x, ?_, hx⟩
  congr 1
  apply Array.toList_inj.1
  simpa [Value.cells] using hc
theorem none_walk (x : kt.Act) (w : World) (h : kt.ActOk w x) :
    Calls Try.prog 7 #[.agg #[.int .i64 x.kind, .int .i64 x.n, .int .u64 x.at', .int .u64 x.v, .slice x.ba x.bl x.bc]] w fun e w' => e = .returned (.bool true) ∧ Below w.heap.size w w' := by
  obtain ⟨kd, xn, xa, xv, ba, bn, bc, bs⟩ := x
  by_cases hn : 200 < bn
  · exact none_long kd xn xa xv ba bn bc bs w h hn
  · exact none_core kd xn xa xv ba bn bc bs w h (by omega)
end Go.Proofs.Ytkohmoekomegnaa
