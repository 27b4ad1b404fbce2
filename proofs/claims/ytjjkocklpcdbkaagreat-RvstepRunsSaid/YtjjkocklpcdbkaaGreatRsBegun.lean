/- begun: both machines as they begin, walked. -/
import Derived.Test.YtjjkocklpcdbkaaGreatRsAlike
namespace Go.Proofs.YtjjkocklpcdbkaaGreat
open Go.RowKit
set_option linter.unusedVariables false
set_option maxRecDepth 100000
set_option maxHeartbeats 1600000 in
theorem samew_yes (a a' : Option Addr) (n c c' : Nat) (f : Nat → Int) (w : World) (h : WordsAt w a n f) (h' : WordsAt w a' n f) (hn : n ≤ 65536) :
    Calls Tryz.prog 26 #[.slice a n c, .slice a' n c'] w fun e w' => e = .returned (.bool true) ∧ Below w.heap.size w w' := by
  have HD : Hid (∀ wr n, Below w.heap.size w wr → Below w.heap.size w (wr.drewN n)) := bl.hid (fun wr n h => h.drewN' n)
  have HW := bl.hid (And.intro h h')
  clear h h'
  go_enter Tryz.func26, Tryz.ntmps26
  go_wp2
  go_loopw [5] (fun v wr => ∃ k : Nat, k ≤ n ∧ v = .int .i64 k ∧ Below w.heap.size w wr) (fun v _ => n - (intOf v).toNat)
  case atStart => exact ⟨0, by omega, rfl, Below.refl _ _⟩
  case round =>
    obtain ⟨k, hk, rfl, hb⟩ := hrel
    have HB := bl.hid hb
    by_cases hlt : k < n
    · obtain ⟨b, off, e1, c1⟩ := (HW.out.1.keep hb).2.resolve_left (by omega)
      obtain ⟨b', off', e2, c2⟩ := (HW.out.2.keep hb).2.resolve_left (by omega)
      subst e1 e2
      have d1 := c1 k hlt
      have d2 := c2 k hlt
      have hlt2 : (k : Int) < n := by omega
      have hk0 : (0 : Int) ≤ k := by omega
      clear hb c1 c2
      go_wp2
      go_quiet (fail)
      go_wp2
      exact ⟨⟨k + 1, by omega, by go_num, HD.out _ _ HB.out⟩, by simp [intOf]; omega⟩
    · obtain rfl : k = n := by omega
      clear hb
      go_wp2
      go_ret
      exact ⟨rfl, HB.out⟩
/-- the row while it is written over -/
def OverW (g m : Nat) (w wr : World) : Prop := ∃ cur : List Value, kt.Only g w wr ∧ wr.heap[g]? = some (.cells cur.toArray 97 (0, 0)) ∧ m ≤ cur.length ∧ ∀ c ∈ cur, kt.IsU32 c
theorem OverW.cell {g m k : Nat} {w wr : World} (h : OverW g m w wr) (hk : k < m) : ∃ z : Int, 0 ≤ z ∧ z < 4294967296 ∧ wr.cell? ⟨g, k, none⟩ = some (.int .u32 z) ∧ wr.frozen? ⟨g, k, none⟩ = false ∧ ∀ u : Int, 0 ≤ u → u < 4294967296 → OverW g m w (wr.setCell ⟨g, k, none⟩ (.int .u32 u)) := by
  obtain ⟨cur, h1, h2, h3, h4⟩ := h
  have hk' : k < cur.length := by omega
  obtain ⟨z, z0, z1, hz⟩ := h4 cur[k] (List.getElem_mem hk')
  refine ⟨z, z0, z1, ?_, frozen_of_row wr g k _ _ h2, fun u u0 u1 => ?_⟩
  · rw [cell_of_row wr g k _ _ _ h2]
    simp [hk', hz]
  · refine ⟨cur.set k (.int .u32 u), h1.trans (kt.Only.setCell g k wr _), ?_, by simpa using h3, ?_⟩
    · rw [heap_setCell_same wr g k cur.toArray _ _ h2]
      simp
    · intro c hc
      rcases List.mem_or_eq_of_mem_set hc with hc | rfl
      · exact h4 c hc
      · exact ⟨u, u0, u1, rfl⟩
theorem overw_nil (w : World) : Calls Tryz.prog 27 #[.slice none 0 0] w fun e w' => e = .returned (.tuple #[]) ∧ w = w' := by
  go_enter Tryz.func27, Tryz.ntmps27
  go_wp2
  refine wp_loop_rounds 1 ?_
  rw [rounds_succ]
  go_wp2
  go_end0
  exact ⟨rfl, rfl⟩
set_option maxHeartbeats 1600000 in
theorem overw_any (g n cap : Nat) (cur : List Value) (w : World) (hg : w.heap[g]? = some (.cells cur.toArray 97 (0, 0))) (hc : cap ≤ cur.length) (hn : n ≤ cap) (hm : cap ≤ 9223372036854775807) (hp : ∀ c ∈ cur, kt.IsU32 c) :
    Calls Tryz.prog 27 #[.slice (some ⟨g, 0, none⟩) n cap] w fun e w' => e = .returned (.tuple #[]) ∧ kt.Only g w w' := by
  have H0 : OverW g cap w w := ⟨cur, kt.Only.refl _ _, hg, hc, hp⟩
  clear hg hp hc
  go_enter Tryz.func27, Tryz.ntmps27
  go_wp2
  go_loopw [3] (fun i wr => ∃ k : Nat, k ≤ cap ∧ i = .int .i64 k ∧ OverW g cap w wr) (fun i _ => cap - (intOf i).toNat)
  case atStart => exact ⟨0, by omega, rfl, H0⟩
  case round =>
    obtain ⟨k, hk, rfl, hinv⟩ := hrel
    by_cases hlt : k < cap
    · obtain ⟨z, z0, z1, hcell, hfro, hst⟩ := hinv.cell hlt
      have HS := bl.hid hst
      have ub : 0 ≤ IntKind.u32.wrap (z + 9) ∧ IntKind.u32.wrap (z + 9) < 4294967296 := by rw [IntKind.wrap_u32]; omega
      have UB := bl.hid ub
      clear hst ub hinv H0
      go_wp2
      go_roundw
      case rel => first | exact ⟨k + 1, by omega, by go_num, HS.out _ UB.out.1 UB.out.2⟩ | ((repeat apply Exists.intro); refine ⟨⟨k + 1, by omega, by go_num, HS.out _ UB.out.1 UB.out.2⟩, ?_⟩; and_intros <;> rfl)
      case measure => simp [intOf]; omega
    · have hl2 : cap ≤ k := by omega
      clear hlt
      go_wp2
      go_end0
      obtain ⟨cur', h1, -⟩ := hinv
      exact ⟨rfl, h1⟩
/-- what is written over is in its own block -/
theorem overw_own (w : World) (B n c : Nat) (a : Option Addr) (f : Nat → Int) (h : kt.Own kt.IsU32 w B 97 1 (.slice a n c) n (kt.wordsL f n)) :
    Calls Tryz.prog 27 #[.slice a n c] w fun e w' => e = .returned (.tuple #[]) ∧ w'.os = w.os ∧ w'.tape = w.tape ∧ w'.output = w.output ∧ w'.heap.size = w.heap.size ∧ ∀ k, (∀ ad, a = some ad → k ≠ ad.block) → w'.heap[k]? = w.heap[k]? := by
  rcases h.2 with ⟨hv, h0⟩ | ⟨g, cap, cur, e, h2, h3, h4, h5, h6, h7, h8⟩
  · injection hv with e1 e2 e3
    subst e1 e2 e3
    exact (overw_nil w).mono (fun e w' q => ⟨q.1, by rw [← q.2], by rw [← q.2], by rw [← q.2], by rw [← q.2], fun k _ => by rw [← q.2]⟩)
  · injection e with e1 e2 e3
    subst e1 e3
    exact (overw_any g n _ cur w h3 (by omega) h4 (by unfold maxLen at h5; omega) h8).mono (fun e w' q => ⟨q.1, q.2.os, q.2.tape, q.2.output, q.2.size, fun k hk => q.2.block k (hk _ rfl)⟩)
/-- a machine stays where words are written over -/
theorem IsMach.over {w w' : World} {P : st.Pl} {code : Nat → st.Told} {s : st.S} (h : IsMach w P code s) {b : Nat} {cs : Array Value} (hr : w.heap[b]? = some (.cells cs 97 (0, 0))) (hb : ∀ k, k ≠ b → w'.heap[k]? = w.heap[k]?) : IsMach w' P code s := by
  obtain ⟨rest, hg⟩ := h.mem.row
  obtain ⟨cap, _, hh⟩ := h.mem.head
  refine ⟨(hb _ (type_ne h.row hr (by decide))).trans h.row, h.mem.kept (hb _ (type_ne hh hr (by decide))) (hb _ (type_ne hg hr (by decide))), h.deeds.kept (hb _ (fun e => h.deeds.is_map (e ▸ hr))), h.told.kept (fun c _ _ hc => ?_), h.ok, h.ins, h.small⟩
  obtain ⟨cs', hc⟩ := hc
  exact hb _ (type_ne hc hr (by decide))
theorem IsRM.over {w w' : World} {P : st.Pl} {f : Nat → Int} {s : st.S} (h : IsRM w P f s) {b : Nat} {cs : Array Value} (hr : w.heap[b]? = some (.cells cs 97 (0, 0))) (hb : ∀ k, k ≠ b → w'.heap[k]? = w.heap[k]?) (hc : ∀ ad, P.ca = some ad → ad.block ≠ b) : IsRM w' P f s := by
  obtain ⟨rest, hg⟩ := h.mem.row
  obtain ⟨cap, _, hh⟩ := h.mem.head
  refine ⟨(hb _ (type_ne h.row hr (by decide))).trans h.row, h.mem.kept (hb _ (type_ne hh hr (by decide))) (hb _ (type_ne hg hr (by decide))), h.words, ?_, h.ok, h.small⟩
  rcases h.told with h0 | ⟨c, e, r, h1⟩
  · exact .inl h0
  · exact .inr ⟨c, e, r, (hb _ (hc _ e)).trans h1⟩
/-- both stay where words of one's own are written over -/
theorem over_both {w w' : World} {P P' : st.Pl} {code : Nat → st.Told} {f f' : Nat → Int} {s s' : st.S} {B n c L : Nat} {a : Option Addr} (hm : IsMach w P code s) (hr : IsRM w P' f s') (ho : kt.Own kt.IsU32 w B 97 1 (.slice a n c) n (kt.wordsL f' n)) (hL : ∀ ad, a = some ad → ad.block < L) (hc : ∀ ad, P'.ca = some ad → L ≤ ad.block)
    (q1 : w'.os = w.os) (q2 : w'.tape = w.tape) (q3 : w'.output = w.output) (q4 : w'.heap.size = w.heap.size) (q5 : ∀ k, (∀ ad, a = some ad → k ≠ ad.block) → w'.heap[k]? = w.heap[k]?) : IsMach w' P code s ∧ IsRM w' P' f s' := by
  rcases ho.2 with ⟨hv, h0⟩ | ⟨g, cap, cur, e, h2, h3, h4, h5, h6, h7, h8⟩
  · injection hv with e1 e2 e3
    subst e1
    have hb : Below w.heap.size w w' := ⟨q1, q2, q3, by rw [q4]; exact Nat.le_refl _, fun k _ => q5 k (fun ad h => by cases h)⟩
    exact ⟨hm.keep hb, hr.keep hb⟩
  · injection e with e1 e2 e3
    subst e1
    have hk : ∀ k, k ≠ g → w'.heap[k]? = w.heap[k]? := fun k hk => q5 k (fun ad h => by injection h with h; subst h; exact hk)
    exact ⟨hm.over h3 hk, hr.over h3 hk (fun ad h => by have := hc ad h; have := hL _ rfl; dsimp only at this; omega)⟩
/-- where both machines are -/
structure BegunAt (w w' : World) (P P' : st.Pl) (cn : Nat) : Prop where
  n : P.n = cn
  n' : P'.n = cn
  p : w.heap.size ≤ P.p
  g : w.heap.size ≤ P.g
  p' : w.heap.size ≤ P'.p
  g' : w.heap.size ≤ P'.g
  below : Below w.heap.size w w'
/-- what begun tells -/
def BegunPost (x : kt.Start) (w : World) (e : Ending) (w' : World) : Prop :=
  ∃ (P P' : st.Pl) (pb : Nat), e = .returned (.tuple #[.pointer (some ⟨pb, 0, none⟩), .bool true]) ∧ BegunAt w w' P P' x.cn ∧ IsPair w' P P' (fun k => st.toldOf (x.cf k)) x.cf pb (st.begS x) (st.begS x)
set_option maxHeartbeats 6400000 in
theorem begun_any (x : kt.Start) (w : World) (hok : kt.StartOk w x) (hn : x.cn ≤ 60 ∧ x.rn ≤ 40 ∧ x.bn ≤ 200) :
    Calls Tryz.prog 7 #[.agg x.cells] w (BegunPost x w) := by
  have hb0 : Below w.heap.size w (w.alloc (.cells x.cells 27)) := (Below.refl _ _).alloc (Nat.le_refl _) _
  have HOk : Hid (∀ w1, Below w.heap.size w w1 → kt.StartOk w1 x) := bl.hid fun w1 hb => hok.keep hb
  have hx0 := heap_alloc_new w (.cells x.cells 27)
  obtain ⟨w0, hw0⟩ : ∃ w0, w.alloc (.cells x.cells 27) = w0 := ⟨_, rfl⟩
  have hs0 : w0.heap.size = w.heap.size + 1 := by rw [← hw0]; exact World.size_alloc _ _
  rw [hw0] at hb0 hx0
  have HXr : Hid (∀ w1, Below (w.heap.size + 1) w0 w1 → w1.heap[w.heap.size]? = some (.cells x.cells 27 (0, 0))) := bl.hid (fun w1 hb => (hb.block w.heap.size (by omega)).trans hx0)
  have HX : Hid (∀ w1, Below (w.heap.size + 1) w0 w1 → w1.cell? ⟨w.heap.size, 0, none⟩ = some (.slice x.ca x.cn x.cc) ∧ w1.cell? ⟨w.heap.size, 1, none⟩ = some (.slice x.ra x.rn x.rc) ∧ w1.cell? ⟨w.heap.size, 2, none⟩ = some (.bool x.far) ∧ w1.cell? ⟨w.heap.size, 3, none⟩ = some (.int .u64 x.at') ∧ w1.cell? ⟨w.heap.size, 4, none⟩ = some (.slice x.ba x.bn x.bc)) := bl.hid (fun w1 hb => by
    have h := HXr.out w1 hb
    unfold kt.Start.cells at h
    exact ⟨(cell_of_row _ _ _ _ _ _ h).trans rfl, (cell_of_row _ _ _ _ _ _ h).trans rfl, (cell_of_row _ _ _ _ _ _ h).trans rfl, (cell_of_row _ _ _ _ _ _ h).trans rfl, (cell_of_row _ _ _ _ _ _ h).trans rfl⟩)
  have HW : Hid (∀ w1, Below (w.heap.size + 1) w0 w1 → Below w.heap.size w w1) := bl.hid (fun w1 hb => hb0.trans (hb.mono (by omega)))
  have hemp := kt.Own.empty kt.IsU32 w0 97 1
  rw [hs0] at hemp
  have hwd : WordsAt (w0.alloc (.cells #[] 97)) x.ca x.cn x.cf := (HOk.out _ (hb0.trans ((kt.below_row (w := w0) _).mono (by omega)))).code
  have hcw : Hid (∀ i, i < x.cn → 0 ≤ x.cf i ∧ x.cf i < 4294967296) := bl.hid hok.code.1
  have hat := hok.at'
  obtain ⟨n1, n2, n3⟩ := hn
  have hn1 : x.cn ≤ 65536 := by omega
  have HEt : Hid (∀ (a1 : Option Addr) (c1 : Nat) w1, Below w.heap.size w w1 → WordsAt w1 a1 x.cn x.cf → Calls Tryz.prog 21 #[.agg #[.slice a1 x.cn c1, .slice x.ra x.rn x.rc, .bool x.far, .int .u64 x.at', .slice x.ba x.bn x.bc]] w1 (MachPost x.cn (fun k => st.toldOf (x.cf k)) (st.begS x) w1)) := bl.hid (fun a1 c1 w1 hb hwd => by
    have ho := HOk.out w1 hb
    exact begin_any { x with ca := a1, cc := c1 } w1 ⟨hwd, ho.cn, ho.regs, ho.rn, ho.at', ho.bytes, ho.bn⟩ ⟨n1, n2, n3⟩)
  unfold kt.Start.cells at hw0 ⊢
  obtain ⟨X0, X1, X2, X3, X4⟩ := HX.out w0 (Below.refl _ _)
  clear hok hb0 hx0
  go_enter Tryz.func7, Tryz.ntmps7
  go_wp2_with (at_builtin; refine kt.wpList_copy_words rfl _ _ rfl (w.heap.size + 1) _ rfl hemp x.ca x.cn x.cc x.cf rfl hwd hn1 (by simp; omega) ?_)
  intro v' w1 hown hgrow
  have hB1 : Below (w.heap.size + 1) w0 w1 := hemp.below_grown (by rw [← hs0]; exact kt.below_row _) (by simp; omega) hgrow
  obtain ⟨a1, c1, hv⟩ := hown.shape
  subst hv
  have HO := bl.hid hown
  have HB1 := bl.hid hB1
  obtain ⟨x0, x1, x2, x3, x4⟩ := HX.out _ hB1
  have s1 := hB1.size
  have HR1 := bl.hid (HXr.out _ hB1)
  clear hown hgrow hB1 hwd hemp X0 X1 X2 X3 X4
  go_upto_region 4 with (fail)
  refine kt.forget (fun w2 => Below w1.heap.size w1 w2 ∧ w2.heap[w1.heap.size]? = some (.cells #[.slice a1 x.cn c1, .slice x.ra x.rn x.rc, .bool x.far, .int .u64 x.at', .slice x.ba x.bn x.bc] 27 (0, 0)) ∧ w1.heap.size < w2.heap.size) ?hXA ?_
  case hXA => exact ⟨kt.below_row _, heap_alloc_new _ _, by rw [World.size_alloc]; omega⟩
  rintro w2 ⟨hb2, hr2, l2⟩
  have HB2 : Hid (Below (w.heap.size + 1) w0 w2) := bl.hid (HB1.out.trans (hb2.mono (by omega)))
  have HO2 := bl.hid (HO.out.below hb2 (Nat.le_refl _))
  have y0 := (cell_of_row _ _ 0 _ _ _ hr2).trans rfl
  have y1 := (cell_of_row _ _ 1 _ _ _ hr2).trans rfl
  have y2 := (cell_of_row _ _ 2 _ _ _ hr2).trans rfl
  have y3 := (cell_of_row _ _ 3 _ _ _ hr2).trans rfl
  have y4 := (cell_of_row _ _ 4 _ _ _ hr2).trans rfl
  have HBg := bl.hid (HEt.out a1 c1 w2 (HW.out _ HB2.out) (WordsAt.of_own HO2.out hcw.out))
  have s2 := HB2.out.size
  clear hb2 hr2 x0 x1 x2 x3 x4 HO HR1
  go_wp2_with fail
  refine HBg.out.mono ?_
  rintro e w3 ⟨P, hPn, rfl, hm3, hb3, hp, hg⟩
  have HM3 := bl.hid hm3
  have HB3 : Hid (Below (w.heap.size + 1) w0 w3) := bl.hid (HB2.out.trans (hb3.mono (by omega)))
  have HO3 := bl.hid (HO2.out.below hb3 (Nat.le_refl _))
  have s3 := hb3.size
  have HN := bl.hid (rnew_ok 128 w3 (by decide) (by decide))
  have HPn := bl.hid hPn
  clear hm3 hb3 HBg y0 y1 y2 y3 y4 hPn
  go_wp2_with fail
  refine HN.out.mono ?_
  rintro e w4 ⟨mp, g, rfl, hmp, hg4, hm4, hb4⟩
  have HB4 : Hid (Below (w.heap.size + 1) w0 w4) := bl.hid (HB3.out.trans (hb4.mono (by omega)))
  have HC4 := bl.hid hb4
  have s4 := hb4.size
  obtain ⟨x0, x1, x2, x3, x4⟩ := HX.out _ HB4.out
  have hbt := (HOk.out _ (HW.out _ HB4.out)).bytes
  have hblt : ∀ ad, x.ba = some ad → 0 < x.bn → ad.block ≠ g := fun ad e h0 => by
    rcases (HOk.out _ (HW.out _ HB3.out)).bytes.2.2 with h1 | ⟨b, off, e1, hc⟩
    · omega
    · rw [e1] at e
      injection e with e
      subst e
      have hbl : b < w3.heap.size := block_lt_of_cell (hc 0 h0)
      show b ≠ g
      omega
  have HLay := bl.hid (rlay_any mp g 16 x.bn x.bc x.ba x.bl _ w4 hm4 hbt hblt (by decide) (by decide) (by omega))
  clear hm4 hb4 HN hbt hblt
  go_wp2_with fail
  refine HLay.out.mono ?_
  rintro e w5 ⟨rfl, ho5, hm5⟩
  have HC5 : Hid (Below w3.heap.size w3 w5) := bl.hid (HC4.out.trans (ho5.below hg4))
  have HB5 : Hid (Below (w.heap.size + 1) w0 w5) := bl.hid (HB3.out.trans (HC5.out.mono (by omega)))
  have HMk := bl.hid (rmake_any w5 mp g _ hm5)
  have s5 := HC5.out.size
  clear ho5 hm5 HLay x0 x1 x2 x3 x4
  go_wp2_with fail
  refine HMk.out.mono ?_
  rintro e w6 ⟨p, rfl, hp6, hm6, hb6⟩
  have HC6 : Hid (Below w3.heap.size w3 w6) := bl.hid (HC5.out.trans (hb6.mono s5))
  have HB6 : Hid (Below (w.heap.size + 1) w0 w6) := bl.hid (HB3.out.trans (HC6.out.mono (by omega)))
  obtain ⟨x0, x1, x2, x3, x4⟩ := HX.out _ HB6.out
  have s6 := HC6.out.size
  have HC := bl.hid (rsload_any w6 _ _ _ x.ca x.cn x.cc x.cf hm6 (HOk.out _ (HW.out _ HB6.out)).code (by omega))
  clear hm6 hb6 HMk
  go_wp2_with fail
  refine HC.out.mono ?_
  rintro e w7 ⟨ca, c, rfl, hm7, hb7, hca⟩
  obtain ⟨P', hP'⟩ : ∃ P' : st.Pl, ({ p := p, mp := mp, g := g, db := 0, ca := ca, n := x.cn, c := c } : st.Pl) = P' := ⟨_, rfl⟩
  have HPp : Hid (P'.p = p ∧ P'.mp = mp ∧ P'.g = g ∧ P'.n = x.cn ∧ P'.ca = ca) := bl.hid (by subst hP'; exact ⟨rfl, rfl, rfl, rfl, rfl⟩)
  have HM7 : Hid (IsRM w7 P' x.cf (st.S0 (pl.layL (List.replicate 128 0) 16 x.bl))) := bl.hid (by rw [← hP']; exact hm7)
  have HC7 : Hid (Below w3.heap.size w3 w7) := bl.hid (hb7.below HC6.out (by show w3.heap.size ≤ p; omega) (by show w3.heap.size ≤ p; omega) s6)
  have HB7 : Hid (Below (w.heap.size + 1) w0 w7) := bl.hid (HB3.out.trans (HC7.out.mono (by omega)))
  have HCa : Hid (∀ ad, P'.ca = some ad → w3.heap.size ≤ ad.block) := bl.hid (fun ad e => by rw [HPp.out.2.2.2.2] at e; have := hca ad e; omega)
  have s7 := HC7.out.size
  clear hm7 hb7 hca hP' HC x0 x1 x2 x3 x4
  go_wp2
  go_loopw [11] (fun v wr => ∃ k : Nat, k ≤ x.rn ∧ v = .int .i64 k ∧ IsRM wr P' x.cf (st.setsS (st.S0 (pl.layL (List.replicate 128 0) 16 x.bl)) x.rf k) ∧ Below w3.heap.size w3 wr) (fun v _ => x.rn - (intOf v).toNat)
  case atStart => exact ⟨0, by omega, rfl, HM7.out, HC7.out⟩
  case round =>
    obtain ⟨k, hk, rfl, hm, hb⟩ := hrel
    have HBr : Hid (Below (w.heap.size + 1) w0 wr) := bl.hid (HB3.out.trans (hb.mono (by omega)))
    obtain ⟨x0, x1, x2, x3, x4⟩ := HX.out _ HBr.out
    have HB := bl.hid hb
    have HM := bl.hid hm
    have sr := hb.size
    have hrg := (HOk.out _ (HW.out _ HBr.out)).regs
    clear hm hb
    by_cases hlt : k < x.rn
    · obtain ⟨b, off, hae, hwc⟩ : ∃ b off, x.ra = some ⟨b, off, none⟩ ∧ ∀ i, i < x.rn → wr.cell? ⟨b, off + i, none⟩ = some (.int .u64 (x.rf i)) := by
        rcases hrg.2 with h | h
        · omega
        · exact h
      rw [hae] at x1
      have hwk := hwc k hlt
      have hu := hrg.1 k hlt
      have HS := bl.hid (rsset_any wr P' x.cf _ k (x.rf k) HM.out hu)
      rw [HPp.out.1] at HS
      have hlt2 : (k : Int) < x.rn := by omega
      have HAe := bl.hid hae
      clear hrg hwc hu hae
      go_wp2_with fail
      refine HS.out.mono ?_
      rintro e w8 ⟨rfl, hm8, hb8⟩
      have HN8 : Hid (IsRM w8 P' x.cf (st.setsS (st.S0 (pl.layL (List.replicate 128 0) 16 x.bl)) x.rf (k + 1))) := bl.hid hm8
      have HB8 : Hid (Below w3.heap.size w3 w8) := bl.hid (hb8.below HB.out (by rw [HPp.out.1]; omega) (by rw [HPp.out.2.2.1]; omega) sr)
      clear hm8 hb8 hwk x0 x1 x2 x3 x4 HS
      go_wp2
      exact ⟨⟨k + 1, by omega, by go_num, HN8.out, HB8.out⟩, by simp [intOf]; omega⟩
    · obtain rfl : k = x.rn := by omega
      clear hrg
      obtain ⟨far, hfar⟩ : ∃ far, x.far = far := ⟨_, rfl⟩
      rw [hfar] at x2
      have HFar := bl.hid hfar
      have HBg : Hid (st.begS x = if far = true then (st.setsS (st.S0 (pl.layL (List.replicate 128 0) 16 x.bl)) x.rf x.rn).go x.at' else st.setsS (st.S0 (pl.layL (List.replicate 128 0) 16 x.bl)) x.rf x.rn) := bl.hid (by rw [← hfar]; rfl)
      clear hfar
      cases far with
      | false =>
        have HMy : Hid (IsRM wr P' x.cf (st.begS x)) := bl.hid (by rw [HBg.out, if_neg (by decide)]; exact HM.out)
        go_upto_region 15 with (fail)
        have HBy := HB
        have HBx := HBr
        clear x0 x1 x2 x3 x4
        obtain ⟨wy, hwy⟩ : ∃ wy, wr = wy := ⟨_, rfl⟩
        rw [hwy] at HMy HBy HBx ⊢
        clear HM HB HBr sr hwy
        obtain ⟨x0, x1, x2, x3, x4⟩ := HX.out _ HBx.out
        have HOx := bl.hid (HO3.out.below HBy.out (Nat.le_refl _))
        have HSm := bl.hid (samew_yes a1 x.ca x.cn c1 x.cc x.cf wy (WordsAt.of_own HOx.out hcw.out) (HOk.out _ (HW.out _ HBx.out)).code hn1)
        have sy := HBy.out.size
        go_wp2_with fail
        refine HSm.out.mono ?_
        rintro e w8 ⟨rfl, hb8⟩
        have HO8 := bl.hid (HOx.out.below hb8 (Nat.le_refl _))
        have HM8 := bl.hid (HMy.out.keep hb8)
        have HB8 : Hid (Below w3.heap.size w3 w8) := bl.hid (HBy.out.trans (hb8.mono sy))
        have s8 := hb8.size
        have HOv := bl.hid (overw_own w8 _ x.cn c1 a1 x.cf HO8.out)
        clear hb8 HSm x0 x1 x2 x3 x4
        go_wp2_with fail
        refine HOv.out.mono ?_
        rintro e w9 ⟨rfl, q1, q2, q3, q4, q5⟩
        have hal : ∀ ad, a1 = some ad → w.heap.size + 1 ≤ ad.block ∧ ad.block < w3.heap.size := fun ad e => HO3.out.lt ad.block (by subst e; rfl)
        have HBo := bl.hid (over_both (HM3.out.keep HB8.out) HM8.out HO8.out (fun ad e => (hal ad e).2) HCa.out q1 q2 q3 q4 q5)
        have HB9 : Hid (Below (w.heap.size + 1) w0 w9) := bl.hid ((HB3.out.trans (HB8.out.mono (by omega))).trans ⟨q1, q2, q3, by rw [q4]; exact Nat.le_refl _, fun k hk => q5 k (fun ad e => by have := (hal ad e).1; omega)⟩)
        have s9 : w3.heap.size ≤ w9.heap.size := by omega
        clear q1 q2 q3 q4 q5 hal HOv
        go_wp2
        go_ret2
        have hbr : Below w9.heap.size w9 (w9.alloc (.cells #[.pointer (some ⟨P.p, 0, none⟩), .pointer (some ⟨p, 0, none⟩), .pointer (some ⟨P.mp, 0, none⟩), .pointer (some ⟨mp, 0, none⟩)] 39)) := kt.below_row _
        refine ⟨P, P', w9.heap.size, rfl, ⟨HPn.out, HPp.out.2.2.2.1, by omega, by omega, by rw [HPp.out.1]; omega, by rw [HPp.out.2.2.1]; omega, HW.out _ (HB9.out.trans (hbr.mono (by omega)))⟩, ⟨HBo.out.1.keep hbr, HBo.out.2.keep hbr, ?_, ?_⟩⟩
        · have := HM3.out.mem.lt.2
          rw [HPp.out.2.2.1]
          omega
        · rw [HPp.out.1, HPp.out.2.1]
          exact heap_alloc_new _ _
      | true =>
        have c32 := HM.out.pcC
        rw [HPp.out.1] at c32
        have fr := frozen_of_row wr P'.p 32 _ _ HM.out.row
        rw [HPp.out.1] at fr
        obtain ⟨g1, g2⟩ := HM.out.goes x.at' hat
        have HMy : Hid (IsRM (wr.setCell ⟨p, 32, none⟩ (.int .u64 x.at')) P' x.cf (st.begS x)) := bl.hid (by rw [HBg.out, if_pos rfl]; rw [HPp.out.1] at g1; exact g1)
        have HBy : Hid (Below w3.heap.size w3 (wr.setCell ⟨p, 32, none⟩ (.int .u64 x.at'))) := bl.hid (by rw [HPp.out.1] at g2; exact g2.below HB.out (by omega) (by rw [HPp.out.2.2.1]; omega) sr)
        have HBx : Hid (Below (w.heap.size + 1) w0 (wr.setCell ⟨p, 32, none⟩ (.int .u64 x.at'))) := bl.hid (HB3.out.trans (HBy.out.mono (by omega)))
        clear g1 g2
        go_upto_region 15 with (fail)
        clear x0 x1 x2 x3 x4 c32 fr
        obtain ⟨wy, hwy⟩ : ∃ wy, wr.setCell ⟨p, 32, none⟩ (.int .u64 x.at') = wy := ⟨_, rfl⟩
        rw [hwy] at HMy HBy HBx ⊢
        clear HM HB HBr sr hwy
        obtain ⟨x0, x1, x2, x3, x4⟩ := HX.out _ HBx.out
        have HOx := bl.hid (HO3.out.below HBy.out (Nat.le_refl _))
        have HSm := bl.hid (samew_yes a1 x.ca x.cn c1 x.cc x.cf wy (WordsAt.of_own HOx.out hcw.out) (HOk.out _ (HW.out _ HBx.out)).code hn1)
        have sy := HBy.out.size
        go_wp2_with fail
        refine HSm.out.mono ?_
        rintro e w8 ⟨rfl, hb8⟩
        have HO8 := bl.hid (HOx.out.below hb8 (Nat.le_refl _))
        have HM8 := bl.hid (HMy.out.keep hb8)
        have HB8 : Hid (Below w3.heap.size w3 w8) := bl.hid (HBy.out.trans (hb8.mono sy))
        have s8 := hb8.size
        have HOv := bl.hid (overw_own w8 _ x.cn c1 a1 x.cf HO8.out)
        clear hb8 HSm x0 x1 x2 x3 x4
        go_wp2_with fail
        refine HOv.out.mono ?_
        rintro e w9 ⟨rfl, q1, q2, q3, q4, q5⟩
        have hal : ∀ ad, a1 = some ad → w.heap.size + 1 ≤ ad.block ∧ ad.block < w3.heap.size := fun ad e => HO3.out.lt ad.block (by subst e; rfl)
        have HBo := bl.hid (over_both (HM3.out.keep HB8.out) HM8.out HO8.out (fun ad e => (hal ad e).2) HCa.out q1 q2 q3 q4 q5)
        have HB9 : Hid (Below (w.heap.size + 1) w0 w9) := bl.hid ((HB3.out.trans (HB8.out.mono (by omega))).trans ⟨q1, q2, q3, by rw [q4]; exact Nat.le_refl _, fun k hk => q5 k (fun ad e => by have := (hal ad e).1; omega)⟩)
        have s9 : w3.heap.size ≤ w9.heap.size := by omega
        clear q1 q2 q3 q4 q5 hal HOv
        go_wp2
        go_ret2
        have hbr : Below w9.heap.size w9 (w9.alloc (.cells #[.pointer (some ⟨P.p, 0, none⟩), .pointer (some ⟨p, 0, none⟩), .pointer (some ⟨P.mp, 0, none⟩), .pointer (some ⟨mp, 0, none⟩)] 39)) := kt.below_row _
        refine ⟨P, P', w9.heap.size, rfl, ⟨HPn.out, HPp.out.2.2.2.1, by omega, by omega, by rw [HPp.out.1]; omega, by rw [HPp.out.2.2.1]; omega, HW.out _ (HB9.out.trans (hbr.mono (by omega)))⟩, ⟨HBo.out.1.keep hbr, HBo.out.2.keep hbr, ?_, ?_⟩⟩
        · have := HM3.out.mem.lt.2
          rw [HPp.out.2.2.1]
          omega
        · rw [HPp.out.1, HPp.out.2.1]
          exact heap_alloc_new _ _
end Go.Proofs.YtjjkocklpcdbkaaGreat
