/- RvstepSteps, walked. -/
import Derived.Test.YtjjkocklpcdbkaaGreatRsBegun
import Derived.Test.YtjjkocklpcdbkaaGreatStAwake
namespace Go.Proofs.YtjjkocklpcdbkaaGreat
open Go.RowKit
set_option linter.unusedVariables false
set_option maxRecDepth 100000
/-- the calls between two worlds, for a pair that was begun behind w -/
structure kt.PairCalls (B : Nat) (w0 : World) (P P' : st.Pl) (code : Nat → st.Told) (f : Nat → Int) (pb : Nat) : Prop where
  step : ∀ w1 s s', IsPair w1 P P' code f pb s s' → Below B w0 w1 → Calls Tryz.prog 10 #[.pointer (some ⟨P.p, 0, none⟩)] w1 fun e w2 => e = .returned (.int .i64 (st.step code P.n s).1) ∧ IsPair w2 P P' code f pb (st.step code P.n s).2 s' ∧ Below B w0 w2
  rstep : ∀ w1 s s', IsPair w1 P P' code f pb s s' → Below B w0 w1 → Calls Tryz.prog 11 #[.pointer (some ⟨P'.p, 0, none⟩)] w1 fun e w2 => e = .returned (.int .i64 (st.step code P.n s').1) ∧ IsPair w2 P P' code f pb s (st.step code P.n s').2 ∧ Below B w0 w2
  alike : ∀ w1 s, IsPair w1 P P' code f pb s s → s.l.length = 128 → Below B w0 w1 → Calls Tryz.prog 8 #[.pointer (some ⟨pb, 0, none⟩)] w1 fun e w2 => e = .returned (.bool true) ∧ IsPair w2 P P' code f pb s s ∧ Below B w0 w2
  run : ∀ w1 s s' (n : Int), -9223372036854775808 ≤ n → n ≤ 9223372036854775807 → IsPair w1 P P' code f pb s s' → Below B w0 w1 → Calls Tryz.prog 12 #[.pointer (some ⟨P.p, 0, none⟩), .int .i64 n] w1 fun e w2 => e = .returned (.tuple #[.int .i64 (st.runS code P.n s n.toNat).1, .int .i64 (st.runS code P.n s n.toNat).2.1]) ∧ IsPair w2 P P' code f pb (st.runS code P.n s n.toNat).2.2 s' ∧ Below B w0 w2
  rrun : ∀ w1 s s' (n : Int), -9223372036854775808 ≤ n → n ≤ 9223372036854775807 → IsPair w1 P P' code f pb s s' → Below B w0 w1 → Calls Tryz.prog 13 #[.pointer (some ⟨P'.p, 0, none⟩), .int .i64 n] w1 fun e w2 => e = .returned (.tuple #[.int .i64 (st.runS code P.n s' n.toNat).1, .int .i64 (st.runS code P.n s' n.toNat).2.1]) ∧ IsPair w2 P P' code f pb s (st.runS code P.n s' n.toNat).2.2 ∧ Below B w0 w2
  set : ∀ w1 s s' n v, st.isU v → IsPair w1 P P' code f pb s s' → Below B w0 w1 → Calls Tryz.prog 14 #[.pointer (some ⟨P.p, 0, none⟩), .int .i64 n, .int .u64 v] w1 fun e w2 => e = .returned (.int .i64 (st.setE n)) ∧ IsPair w2 P P' code f pb (s.set n v) s' ∧ Below B w0 w2
  rset : ∀ w1 s s' n v, st.isU v → IsPair w1 P P' code f pb s s' → Below B w0 w1 → Calls Tryz.prog 15 #[.pointer (some ⟨P'.p, 0, none⟩), .int .i64 n, .int .u64 v] w1 fun e w2 => e = .returned (.int .i64 (st.setE n)) ∧ IsPair w2 P P' code f pb s (s'.set n v) ∧ Below B w0 w2
  jump : ∀ w1 s s' a, st.isU a → IsPair w1 P P' code f pb s s' → Below B w0 w1 → Calls Tryz.prog 16 #[.pointer (some ⟨P.p, 0, none⟩), .int .u64 a] w1 fun e w2 => e = .returned (.int .i64 0) ∧ IsPair w2 P P' code f pb (s.go a) s' ∧ Below B w0 w2
  goes : ∀ w1 s s' a, st.isU a → IsPair w1 P P' code f pb s s' → Below B w0 w1 → IsPair (w1.setCell ⟨P'.p, 32, none⟩ (.int .u64 a)) P P' code f pb s (s'.go a) ∧ Below B w0 (w1.setCell ⟨P'.p, 32, none⟩ (.int .u64 a))
theorem pair_calls {x : kt.Start} {w w0 w1 : World} {B : Nat} {P P' : st.Pl} {pb n : Nat} {f : Nat → Int} (hb : Below B w0 w) (hB : B ≤ w.heap.size) (ha : BegunAt w w1 P P' n) : kt.PairCalls B w0 P P' (fun k => st.toldOf (f k)) f pb := by
  have hn : P'.n = P.n := ha.n'.trans ha.n.symm
  have h1 : B ≤ P.p := Nat.le_trans hB ha.p
  have h2 : B ≤ P.g := Nat.le_trans hB ha.g
  have h3 : B ≤ P'.p := Nat.le_trans hB ha.p'
  have h4 : B ≤ P'.g := Nat.le_trans hB ha.g'
  have hsz : ∀ {w1 : World} {s s'}, IsPair w1 P P' (fun k => st.toldOf (f k)) f pb s s' → B ≤ w1.heap.size := fun h => by have := h.m.lt; omega
  refine ⟨?_, ?_, ?_, ?_, ?_, ?_, ?_, ?_, ?_⟩
  · intro w1 s s' h hb
    exact (step_any w1 P _ s h.m).mono fun e w2 q => ⟨q.1, h.turnM q.2.1 q.2.2, q.2.2.below hb h1 h2 (hsz h)⟩
  · intro w1 s s' h hb
    have := rstep_any w1 P' f s' h.r
    rw [hn] at this
    exact this.mono fun e w2 q => ⟨q.1, h.turnR q.2.1 q.2.2, q.2.2.below hb h3 h4 (hsz h)⟩
  · intro w1 s h hl hb
    exact (palike_any w1 P P' _ f pb s h (by omega)).mono fun e w2 q => ⟨q.1, h.keep q.2, hb.trans (q.2.mono (hsz h))⟩
  · intro w1 s s' n n0 n1 h hb
    exact (run_any w1 P _ s n h.m ⟨n0, n1⟩).mono fun e w2 q => ⟨q.1, h.turnM q.2.1 q.2.2, q.2.2.below hb h1 h2 (hsz h)⟩
  · intro w1 s s' n n0 n1 h hb
    have := rsrun_any w1 P' f s' n h.r ⟨n0, n1⟩
    rw [hn] at this
    exact this.mono fun e w2 q => ⟨q.1, h.turnR q.2.1 q.2.2, q.2.2.below hb h3 h4 (hsz h)⟩
  · intro w1 s s' n v hv h hb
    exact (mset_any w1 P _ s n v h.m hv).mono fun e w2 q => ⟨q.1, h.turnM q.2.1 q.2.2, q.2.2.below hb h1 h2 (hsz h)⟩
  · intro w1 s s' n v hv h hb
    exact (rsset_any w1 P' f s' n v h.r hv).mono fun e w2 q => ⟨q.1, h.turnR q.2.1 q.2.2, q.2.2.below hb h3 h4 (hsz h)⟩
  · intro w1 s s' a hv h hb
    exact (mjump_any w1 P _ s a h.m hv).mono fun e w2 q => ⟨q.1, h.turnM q.2.1 q.2.2, q.2.2.below hb h1 h2 (hsz h)⟩
  · intro w1 s s' a hv h hb
    obtain ⟨g1, g2⟩ := h.r.goes a hv
    exact ⟨h.turnR g1 g2, g2.below hb h3 h4 (hsz h)⟩
set_option maxHeartbeats 6400000 in
theorem steps_walk (x : kt.Start) (steps : Int) (w : World) (hok : kt.StartOk w x) (hf : (Lit.int .i64 steps).wf = true) :
    Calls Tryz.prog 3 #[.agg x.cells, .int .i64 steps] w fun e w' => e = .returned (.bool true) ∧ Below w.heap.size w w' := by
  obtain ⟨f0, f1⟩ := bl.wf_i64 hf
  clear hf
  have hb0 : Below w.heap.size w (w.alloc (.cells x.cells 27)) := (Below.refl _ _).alloc (Nat.le_refl _) _
  have HOk : Hid (∀ w1, Below w.heap.size w w1 → kt.StartOk w1 x) := bl.hid fun w1 hb => hok.keep hb
  have hx0 := heap_alloc_new w (.cells x.cells 27)
  obtain ⟨w0, hw0⟩ : ∃ w0, w.alloc (.cells x.cells 27) = w0 := ⟨_, rfl⟩
  have hs0 : w0.heap.size = w.heap.size + 1 := by rw [← hw0]; exact World.size_alloc _ _
  rw [hw0] at hb0 hx0
  unfold kt.Start.cells at hx0 hw0
  have HX : Hid (∀ w1, Below (w.heap.size + 1) w0 w1 → w1.cell? ⟨w.heap.size, 0, none⟩ = some (.slice x.ca x.cn x.cc) ∧ w1.cell? ⟨w.heap.size, 1, none⟩ = some (.slice x.ra x.rn x.rc) ∧ w1.cell? ⟨w.heap.size, 2, none⟩ = some (.bool x.far) ∧ w1.cell? ⟨w.heap.size, 3, none⟩ = some (.int .u64 x.at') ∧ w1.cell? ⟨w.heap.size, 4, none⟩ = some (.slice x.ba x.bn x.bc)) := bl.hid (fun w1 hb => by
    have h := (hb.block w.heap.size (by omega)).trans hx0
    exact ⟨(cell_of_row _ _ _ _ _ _ h).trans rfl, (cell_of_row _ _ _ _ _ _ h).trans rfl, (cell_of_row _ _ _ _ _ _ h).trans rfl, (cell_of_row _ _ _ _ _ _ h).trans rfl, (cell_of_row _ _ _ _ _ _ h).trans rfl⟩)
  have HW : Hid (∀ w1, Below (w.heap.size + 1) w0 w1 → Below w.heap.size w w1) := bl.hid (fun w1 hb => hb0.trans (hb.mono (by omega)))
  have HLo := bl.hid (long_any x w0)
  have HBe := bl.hid (fun (hn : x.cn ≤ 60 ∧ x.rn ≤ 40 ∧ x.bn ≤ 200) w1 (hb : Below (w.heap.size + 1) w0 w1) => begun_any x w1 (HOk.out _ (HW.out _ hb)) hn)
  have HNo : Hid (st.longS x = false → x.cn ≤ 60 ∧ x.rn ≤ 40 ∧ x.bn ≤ 200) := bl.hid (st.long_no x)
  have HPk := bl.hid (fun w => pick_val steps 61 w (by decide) (by decide) f0 f1)
  have hpk := st.pick_bd steps 61 (by decide)
  obtain ⟨pk, hpe⟩ : ∃ pk, st.pickV steps 61 = pk := ⟨_, rfl⟩
  rw [hpe] at HPk hpk
  obtain ⟨q, rfl⟩ : ∃ q : Nat, pk = q := ⟨pk.toNat, by omega⟩
  have hq : q ≤ 60 := by omega
  obtain ⟨L, hL⟩ : ∃ L, st.longS x = L := ⟨_, rfl⟩
  rw [hL] at HLo HNo
  obtain ⟨X0, X1, X2, X3, X4⟩ := HX.out w0 (Below.refl _ _)
  unfold kt.Start.cells at HLo HBe ⊢
  clear hok hb0 hx0 hL HOk hpe hpk
  go_enter Tryz.func3, Tryz.ntmps3
  go_wp2_with fail
  clear hw0
  refine HLo.out.mono ?_
  rintro e w1 ⟨rfl, hb⟩
  rw [hs0] at hb
  have HB1 := bl.hid hb
  have s1 := hb.size
  clear hb X0 X1 X2 X3 X4 HLo
  cases L with
  | true =>
    have HA := bl.hid (awake_any w1)
    go_wp2_with fail
    refine HA.out.mono ?_
    rintro e w2 ⟨rfl, hb⟩
    have HE := bl.hid (HW.out _ (HB1.out.trans (hb.mono (by omega))))
    clear hb
    go_wp2
    go_ret
    exact ⟨rfl, HE.out⟩
  | false =>
    obtain ⟨x0, x1, x2, x3, x4⟩ := HX.out _ HB1.out
    have HBg := bl.hid (HBe.out (HNo.out rfl) w1 HB1.out)
    clear HBe HNo
    go_wp2_with fail
    refine HBg.out.mono ?_
    rintro e w2 ⟨P, P', pb, rfl, hat, hp⟩
    have HB2 : Hid (Below (w.heap.size + 1) w0 w2) := bl.hid (HB1.out.trans (hat.below.mono (by omega)))
    have HC := bl.hid (pair_calls (x := x) (pb := pb) (f := x.cf) HB1.out (by omega) hat)
    obtain ⟨code, hcode⟩ : ∃ code, (fun k => st.toldOf (x.cf k)) = code := ⟨_, rfl⟩
    rw [hcode] at hp HC
    have HP := bl.hid hp
    have HS128 := bl.hid (st.begS_len x)
    obtain ⟨s, hs⟩ : ∃ s, st.begS x = s := ⟨_, rfl⟩
    rw [hs] at HP HS128
    clear hat hp hcode hs x0 x1 x2 x3 x4 HBg
    go_wp2_with fail
    refine (HC.out.alike w2 s HP.out HS128.out HB2.out).mono ?_
    rintro e w3 ⟨rfl, hp, hb⟩
    have HP3 := bl.hid hp
    have HB3 := bl.hid hb
    clear hp hb
    go_wp2_with fail
    refine (HPk.out _).mono ?_
    rintro e w' ⟨rfl, hw⟩
    subst w'
    go_wp2
    go_loopw [7] (fun v wr => ∃ (k : Nat) (s : st.S), k ≤ q ∧ v = .int .i64 k ∧ IsPair wr P P' code x.cf pb s s ∧ s.l.length = 128 ∧ Below (w.heap.size + 1) w0 wr) (fun v _ => (intOf v).toNat)
    case atStart => exact ⟨q, s, Nat.le_refl _, rfl, HP3.out, HS128.out, HB3.out⟩
    case round =>
      obtain ⟨k, s, hk, rfl, hp, hl, hb⟩ := hrel
      have HBr := bl.hid hb
      have HPr := bl.hid hp
      by_cases hlt : 0 < k
      · obtain ⟨j, rfl⟩ : ∃ j, k = j + 1 := ⟨k - 1, by omega⟩
        have xC := hp.xC
        have wC := hp.wC
        have hl2 := st.step_len code P.n s
        rw [hl] at hl2
        have HL2 := bl.hid hl2
        have hd : Below wr.heap.size wr wr.drew := (Below.refl _ _).drew
        have H1 := bl.hid (HC.out.step wr.drew s s (hp.keep hd) hb.drew)
        have H2 := bl.hid (fun w1 h1 h2 => HC.out.rstep w1 (st.step code P.n s).2 s h1 h2)
        obtain ⟨R, hR⟩ : ∃ R, st.step code P.n s = R := ⟨_, rfl⟩
        rw [hR] at H1 H2 HL2
        obtain ⟨E, s2⟩ := R
        dsimp only at H1 H2 HL2
        have H3 := bl.hid (fun w1 h1 h2 => HC.out.alike w1 s2 h1 HL2.out h2)
        have hw1 : IntKind.i64.wrap (((j + 1 : Nat) : Int) - 1) = j := by rw [IntKind.wrap_i64]; omega
        clear hp hl hb hl2 hd hR
        go_wp2
        go_region_held3 (fun w' => w'.cell? ⟨pb, 0, none⟩ = some (.pointer (some ⟨P.p, 0, none⟩)) ∧ w'.cell? ⟨pb, 1, none⟩ = some (.pointer (some ⟨P'.p, 0, none⟩))) ((first | with_reducible assumption | go_keep))
          ((first
            | (go_at_call 10; with_reducible refine H1.out.mono ?_; rintro e w1 ⟨rfl, hp1, hb1⟩; have xC1 := hp1.xC; have wC1 := hp1.wC; have HP1 := bl.hid hp1; have HB1' := bl.hid hb1; clear hp1 hb1)
            | (go_at_call 11; with_reducible refine (H2.out _ HP1.out HB1'.out).mono ?_; rintro e w2 ⟨rfl, hp2, hb2⟩; have xC2 := hp2.xC; have wC2 := hp2.wC; have HP2 := bl.hid hp2; have HB2' := bl.hid hb2; clear hp2 hb2)
            | (go_at_call 8; with_reducible refine (H3.out _ HP2.out HB2'.out).mono ?_; rintro e w3 ⟨rfl, hp3, hb3⟩; have xC3 := hp3.xC; have wC3 := hp3.wC; have HP3' := bl.hid hp3; have HB3' := bl.hid hb3; clear hp3 hb3)))
        go_wp2
        exact ⟨⟨j, s2, by omega, by go_num, HP3'.out, HL2.out, HB3'.out⟩, by simp [intOf]⟩
      · obtain rfl : k = 0 := by omega
        have HA := bl.hid (awake_any wr)
        have sr := hb.size
        clear hp hl hb
        go_wp2_with fail
        refine HA.out.mono ?_
        rintro e w4 ⟨rfl, hb⟩
        have HE := bl.hid (HW.out _ (HBr.out.trans (hb.mono (by omega))))
        clear hb
        go_wp2
        go_ret
        exact ⟨rfl, HE.out⟩
end Go.Proofs.YtjjkocklpcdbkaaGreat
