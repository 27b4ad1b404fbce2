/- AsmGoes: places rise; each line that goes comes to its label. -/
import Derived.Test.YtbcflhpaafpndaaAsGoesP
import Derived.Test.YtbcflhpaafpndaaAsKnown
import Derived.Test.YtbcflhpaafpndaaAsLinesW
import Derived.Test.YtbcflhpaafpndaaAsCome
import Derived.Deep.RegionHeld3
namespace Go.Proofs.Ytbcflhpaafpndaa
open Go.RowKit
set_option linter.unusedVariables false
theorem placeNums (ls : Nat → kt.Ln) (n : Nat) {w : World} {base : Nat} {pv : Value} (h : w.ownsRow base 3 1 pv (n + 1) (placeVals ls (al.farE ls n) (n + 1))) :
    ∃ g cap, pv = .slice (some ⟨g, 0, none⟩) (n + 1) cap ∧ g < w.heap.size ∧ NumsAt .i64 w (some ⟨g, 0, none⟩) (n + 1) (fun i => (al.pl ls n i : Int)) := by
  obtain ⟨g, cap, rfl, h1, h2, hc⟩ := own_cell h (by omega)
  refine ⟨g, cap, rfl, h2, .inr ⟨g, 0, rfl, fun i hi => ?_⟩⟩
  rw [Nat.zero_add]
  have := hc i _ (placeVals_at ls _ (n + 1) i hi)
  rw [al.pl_place] at this
  exact this
/-- words from a block's head on -/
def Nums0 (w : World) (a : Option Addr) (n : Nat) (f : Nat → Int) : Prop := n = 0 ∨ ∃ b, a = some ⟨b, 0, none⟩ ∧ b < w.heap.size ∧ ∀ i, i < n → w.cell? ⟨b, i, none⟩ = some (.int .u32 (f i))
theorem own_words0 {w : World} {base : Nat} {v : Value} {L : List kt.In5} (h : w.ownsRow base 32 1 v L.length (al.wordsV L)) :
    ∃ a cap, v = .slice a L.length cap ∧ L.length ≤ cap ∧ Nums0 w a L.length (al.wAt L) := by
  obtain ⟨a, cap, e, h1, h2⟩ := own_words h
  refine ⟨a, cap, e, h1, ?_⟩
  by_cases h0 : L.length = 0
  · exact .inl h0
  · obtain ⟨g, c2, e2, _, h3, h4⟩ := own_cell h (by omega)
    rw [e] at e2
    injection e2 with e3
    exact .inr ⟨g, e3, h3, fun i hi => h4 i _ (al.words_at L i hi)⟩
theorem Nums0.below {w w' : World} {a : Option Addr} {n : Nat} {f : Nat → Int} (h : Nums0 w a n f) (hb : Below w.heap.size w w') : Nums0 w' a n f := by
  rcases h with h | ⟨b, e, h1, h⟩
  · exact .inl h
  · exact .inr ⟨b, e, Nat.lt_of_lt_of_le h1 hb.size, fun i hi => (hb.cell (p := ⟨b, i, none⟩) h1).trans (h i hi)⟩
theorem list_ok (ls : Nat → kt.Ln) (n : Nat) (p : Int) (T : Nat) (h : ∀ i, i < n → kt.LnOk (ls i)) : ∀ x ∈ al.linesL ls p T n, kt.LnOk x := by
  intro x hx
  obtain ⟨i, hi, rfl⟩ := al.linesL_mem ls p T n x hx
  exact h i hi
set_option linter.unusedSimpArgs false in
set_option maxRecDepth 100000 in
set_option maxHeartbeats 12800000 in
theorem goes_law (a : Option Addr) (n c : Nat) (ls0 : Nat → kt.Ln) (wh tm : Int) (w : World) (hc : n ≤ c) (hc2 : c ≤ 9223372036854775807) (hl : n ≤ 40 → kt.Lines w a n ls0) (hwh : kt.i64ok wh) (htm : kt.i64ok tm) :
    Calls Try.prog 4 #[.agg #[.slice a n c, .int .i64 wh, .int .i64 tm]] w fun e w' => e = .returned (.bool true) ∧ Below w.heap.size w w' := by
  have HL := bl.hid hl
  have HKn := bl.hid known_any
  have HLi := bl.hid (fun (hn : n ≤ 40) w (hl : kt.Lines w a n ls0) => lines_any a n c ls0 wh tm w hn hl hwh htm)
  clear hl
  go_enter Try.func4, Try.ntmps4
  go_wp2_with fail
  refine (HKn.out _).mono ?_
  rintro e w1 ⟨rfl, hb⟩
  have hx := (hb.block w.heap.size (by rw [World.size_alloc]; omega)).trans (heap_alloc_new w (.cells #[.slice a n c, .int .i64 wh, .int .i64 tm] 41))
  have x0 : w1.cell? ⟨w.heap.size, 0, none⟩ = some (.slice a n c) := (cell_of_row _ _ _ _ _ _ hx).trans rfl
  have x1 : w1.cell? ⟨w.heap.size, 1, none⟩ = some (.int .i64 wh) := (cell_of_row _ _ _ _ _ _ hx).trans rfl
  have x2 : w1.cell? ⟨w.heap.size, 2, none⟩ = some (.int .i64 tm) := (cell_of_row _ _ _ _ _ _ hx).trans rfl
  have HW1 : Hid (Below w.heap.size w w1) := bl.hid (((Below.refl _ _).alloc (Nat.le_refl _) _).trans (hb.mono (by rw [World.size_alloc]; omega)))
  have s1 := HW1.out.size
  clear hb hx
  by_cases hbig : (n : Int) > 40
  · go_wp2
    go_ret
    exact ⟨rfl, HW1.out⟩
  have hn : n ≤ 40 := by omega
  have HL0 : Hid (kt.Lines w a n ls0) := bl.hid (HL.out hn)
  have HLo := bl.hid (HLi.out hn w1 (HL0.out.keep HW1.out))
  clear HL HLi
  go_wp2_with fail
  refine HLo.out.mono ?_
  rintro e w2 ⟨v, rfl, hown, hb⟩
  obtain ⟨p, hp⟩ : ∃ p, al.pick0 wh n = p := ⟨_, rfl⟩
  have hTb := al.pick_bd tm 1060 (by omega)
  obtain ⟨T, hT⟩ : ∃ T, al.times tm = T := ⟨_, rfl⟩
  have hTl : T < 1060 := by rw [← hT]; unfold al.times; omega
  rw [hp, hT] at hown
  obtain ⟨L, hL⟩ : ∃ L, al.linesL ls0 p T n = L := ⟨_, rfl⟩
  have hLl : L.length ≤ 1100 := by rw [← hL, al.linesL_len]; split <;> omega
  have hLok : ∀ x ∈ L, kt.LnOk x := by rw [← hL]; exact list_ok ls0 n p T HL0.out.ok
  rw [hL] at hown
  obtain ⟨N, hN⟩ : ∃ N, L.length = N := ⟨_, rfl⟩
  rw [hN] at hown hLl
  obtain ⟨la, lc, rfl, _, hlines⟩ := kt.own_lines hN.symm hown hLok (by omega)
  obtain ⟨ls, hls⟩ : ∃ ls, kt.nth L = ls := ⟨_, rfl⟩
  rw [hls] at hlines
  have HW2 : Hid (Below w.heap.size w w2) := bl.hid (HW1.out.trans (hb.mono s1))
  have HLs := bl.hid hlines
  have s2 := HW2.out.size
  clear hb hown hp hTb hT hTl hL hLok hN hlines hls HLo HL0 x0 x1 x2 hbig hwh htm
  have HPl := bl.hid (places_any la N lc ls w2 HLs.out)
  go_wp2_with fail
  refine HPl.out.mono ?_
  rintro e w3 ⟨hb3, hbad, hgood⟩
  have HAs := bl.hid (assemble_any la N lc ls w3 (HLs.out.keep hb3))
  have HL3 : Hid (kt.Lines w3 la N ls) := bl.hid (HLs.out.keep hb3)
  have HW3 : Hid (Below w.heap.size w w3) := bl.hid (HW2.out.trans (hb3.mono s2))
  have s3 := HW3.out.size
  clear hb3 HPl HLs HW2
  obtain ⟨q, hq⟩ : ∃ q, al.check ls N = q := ⟨_, rfl⟩
  by_cases h0 : q = 0
  rotate_left
  · obtain rfl := hbad (by rw [hq]; exact h0)
    rw [hq]
    have hq0 : (q == 0) = false := by simpa using h0
    clear hbad hgood
    go_wp2_with fail
    refine HAs.out.mono ?_
    rintro e w4 ⟨hb4, hbad, hgood⟩
    obtain rfl := hbad (by rw [hq]; exact h0)
    rw [hq]
    have HCh := bl.hid (acheck_any la N lc ls w4 (HL3.out.keep hb4))
    rw [hq] at HCh
    have HW4 : Hid (Below w.heap.size w w4) := bl.hid (HW3.out.trans (hb4.mono s3))
    have s4 := HW4.out.size
    clear hb4 hbad hgood hq h0
    go_wp2_with fail
    refine HCh.out.mono ?_
    rintro e w5 ⟨rfl, hb5⟩
    have HW5 : Hid (Below w.heap.size w w5) := bl.hid (HW4.out.trans (hb5.mono s4))
    clear hb5
    go_wp2
    go_ret
    exact ⟨rfl, HW5.out⟩
  subst h0
  have hgd := al.good_of ls N hq
  obtain ⟨base, pv, rfl, _, hown⟩ := hgood hq
  obtain ⟨g, cap, rfl, hg, hnums⟩ := placeNums ls N hown
  have HNp := bl.hid hnums
  clear hbad hgood hown hnums
  go_wp2_with fail
  refine HAs.out.mono ?_
  rintro e w4 ⟨hb4, hbad, hgood⟩
  obtain ⟨base2, pv2, rfl, _, hown2⟩ := hgood hq
  obtain ⟨gw, wcap, rfl, _, hwn⟩ := own_words0 hown2
  have hwl : (al.inss ls N (al.farE ls N) N).length = al.pl ls N N := rfl
  rw [hwl]
  rw [hwl] at hwn
  have HNw : Hid (Nums0 w4 gw (al.pl ls N N) (al.wAt (al.wd5 ls N))) := bl.hid hwn
  have HNp4 := bl.hid (HNp.out.below hb4)
  have HL4 : Hid (kt.Lines w4 la N ls) := bl.hid (HL3.out.keep hb4)
  have HCh := bl.hid (acheck_any la N lc ls w4 HL4.out)
  rw [hq] at HCh
  have HW4 : Hid (Below w.heap.size w w4) := bl.hid (HW3.out.trans (hb4.mono s3))
  have s4 := HW4.out.size
  have hg4 : g < w4.heap.size := by have := hb4.size; omega
  clear hb4 hbad hgood hown2 hwl hwn HNp HL3 HW3
  go_wp2_with fail
  refine HCh.out.mono ?_
  rintro e w5 ⟨rfl, hb5⟩
  have HGd := bl.hid hgd
  have HNw5 := bl.hid (HNw.out.below hb5)
  have HNp5 := bl.hid (HNp4.out.below hb5)
  have HL5 : Hid (kt.Lines w5 la N ls) := bl.hid (HL4.out.keep hb5)
  have HW5 : Hid (Below w.heap.size w w5) := bl.hid (HW4.out.trans (hb5.mono s4))
  have s5 := HW5.out.size
  have hg5 : g < w5.heap.size := by have := hb5.size; omega
  have hM := al.pl_two ls N N
  obtain ⟨M, hMe⟩ : ∃ M, al.pl ls N N = M := ⟨_, rfl⟩
  have HPc : Hid (∀ k, k ≤ N → ∀ w', Below w5.heap.size w5 w' → w'.cell? ⟨g, k, none⟩ = some (.int .i64 (al.pl ls N k))) := bl.hid (fun k hk w' hb => by
    have h := HNp5.out.below hb
    rcases h with h | ⟨b, off, e, h⟩
    · omega
    · injection e with e
      injection e with e1 e2 e3
      subst e1 e2
      have := h k (by omega)
      rw [Nat.zero_add] at this
      exact this)
  have p0 : w5.cell? ⟨g, 0, none⟩ = some (.int .i64 0) := HPc.out 0 (by omega) w5 (Below.refl _ _)
  have pN : w5.cell? ⟨g, N, none⟩ = some (.int .i64 M) := by rw [← hMe]; exact HPc.out N (Nat.le_refl _) w5 (Below.refl _ _)
  rw [hMe] at hM HNw5 ⊢
  have HMe := bl.hid hMe
  clear hb5 hgd HNw HNp4 HL4 HW4 HCh HAs hq hMe
  go_wp2
  go_loopw [9] (fun v wr => ∃ k : Nat, k ≤ N ∧ v = .int .i64 k ∧ Below w5.heap.size w5 wr) (fun v _ => N - (intOf v).toNat)
  case atStart => exact ⟨0, by omega, rfl, Below.refl _ _⟩
  case round =>
    obtain ⟨k, hk, rfl, hb⟩ := hrel
    have HB := bl.hid hb
    have hs := hb.size
    have hgr : g < wr.heap.size := by omega
    clear hb p0 pN
    by_cases hlt : k < N
    · have hat : ∃ b off, la = some ⟨b, off, none⟩ ∧ kt.LnAt wr b (off + k * 7) (ls k) := by
        rcases (HL5.out.keep HB.out).at' with h | ⟨b, off, e, h⟩
        · omega
        · exact ⟨b, off, e, h k hlt⟩
      obtain ⟨b, off, rfl, hla⟩ := hat
      have hbl : b < wr.heap.size := hla.lt
      have hok := HL5.out.ok k hlt
      have hkinds := al.kinds ls N k HGd.out hlt
      have q0 := HPc.out k (by omega) wr HB.out
      have q1 := HPc.out (k + 1) (by omega) wr HB.out
      have hb2 := al.pl_two ls N k
      have hb3 := al.pl_le ls N (k + 1) (by omega)
      rw [HMe.out] at hb3
      have l0 := hla.c0
      have HLa := bl.hid hla
      have HOk := bl.hid hok
      clear hla hok
      rcases hkinds with hk0 | hk1 | hk2
      · obtain ⟨e1, e2, e3⟩ := al.plain_line ls N k HGd.out hlt hk0
        obtain ⟨x, hx⟩ : ∃ x, ls k = x := ⟨_, rfl⟩
        rw [hx] at e2 e3 HLa HOk l0 hk0
        obtain ⟨P, hP⟩ : ∃ P, al.pl ls N k = P := ⟨_, rfl⟩
        rw [e1, hP] at q1 hb3
        rw [hP] at q0 e2 hb2
        obtain ⟨kd, lb, op, rd, rs1, rs2, im⟩ := x
        have hk0 : kd = 0 := hk0
        subst hk0
        obtain ⟨l0, l1, l2, l3, l4, l5, l6⟩ := HLa.out
        dsimp only at l0 l1 l2 l3 l4 l5 l6
        have e3 : rv.chkI op rd rs1 rs2 im = 0 := e3
        have e2 : al.wAt (al.wd5 ls N) P = rv.encI op rd rs1 rs2 im := e2
        have HEn := bl.hid (fun w => encode_any op rd rs1 rs2 im w)
        obtain ⟨V, hV⟩ : ∃ V, rv.encI op rd rs1 rs2 im = V := ⟨_, rfl⟩
        rw [hV] at e2 HEn
        rw [e3] at HEn
        obtain ⟨gg, rfl, hgg, hwc⟩ : ∃ gg, gw = some ⟨gg, 0, none⟩ ∧ gg < wr.heap.size ∧ wr.cell? ⟨gg, P, none⟩ = some (.int .u32 V) := by
          rcases HNw5.out.below HB.out with h | ⟨gg, e, hgg, h⟩
          · omega
          · have hc := h P (by omega)
            rw [e2] at hc
            exact ⟨gg, e, hgg, hc⟩
        have HWc := bl.hid hwc
        have hPb : (P : Int) + 1 ≤ M := by omega
        have hm : (P : Int) + 1 - P = 1 := by omega
        clear e1 e2 e3 hx hP hV hwc
        go_wp2
        go_quiet (fail)
        go_wp2_with fail
        refine (HEn.out _).mono ?_
        rintro e w6 ⟨rfl, hb6⟩
        have hb6' : Below wr.heap.size wr w6 := ((Below.refl _ wr).drewN' nq).trans hb6
        have B6 : Below w5.heap.size w5 w6 := HB.out.trans (hb6'.mono hs)
        have r0 : w6.cell? ⟨g, k, none⟩ = some (.int .i64 P) := (hb6'.cell (p := ⟨g, k, none⟩) hgr).trans q0
        have r1 : w6.cell? ⟨gg, P, none⟩ = some (.int .u32 V) := (hb6'.cell (p := ⟨gg, P, none⟩) hgg).trans HWc.out
        have r2 : w6.cell? ⟨b, off + k * 7, none⟩ = some (.int .i64 0) := (hb6'.cell (p := ⟨b, off + k * 7, none⟩) hbl).trans l0
        have HB6 := bl.hid B6
        have PM : (P : Int) < M := by omega
        clear hb6 hb6' B6 l0 l1 l2 l3 l4 l5 l6 q0 q1
        go_wp2
        exact ⟨⟨k + 1, by omega, by go_num, HB6.out⟩, by simp [intOf]; omega⟩
      · have e1 := al.label_line ls N k hk1
        obtain ⟨P, hP⟩ : ∃ P, al.pl ls N k = P := ⟨_, rfl⟩
        rw [e1, hP] at q1 hb3
        rw [hP] at q0 hb2
        rw [hk1] at l0
        have hPb : (P : Int) ≤ M := by omega
        clear e1 hP
        go_wp2
        go_quiet (fail)
        go_wp2
        exact ⟨⟨k + 1, by omega, by go_num, HB.out.drewN' nq⟩, by simp [intOf]; omega⟩
      · obtain ⟨j, hj⟩ := HGd.out.goes k hlt hk2
        have hdist := al.dist_line ls N k j hj
        have him := al.goes_label ls N k HGd.out hlt hk2
        have hjb := al.pl_le ls N j (by have := hj.1; omega)
        rw [HMe.out] at hjb
        have HAt : Hid (∀ wx, Below w5.heap.size w5 wx → Calls Try.prog 19 #[.slice (some ⟨b, off, none⟩) N lc, .slice (some ⟨g, 0, none⟩) (N + 1) cap, .int .i64 (ls k).label] wx fun e w' => e = .returned (.int .i64 (al.pl ls N j)) ∧ w' = wx) := bl.hid (fun wx hx =>
          at_any _ _ N (N + 1) lc cap ls (fun i => (al.pl ls N i : Int)) (ls k).label j wx (by omega) (HL5.out.keep hx) (HNp5.out.below hx) (by omega) (by omega) hj (fun i hi => by have := al.pl_two ls N i; omega))
        have HFo := bl.hid (fun w => form_any (ls k).op w)
        have hfJ := al.form_J (ls k).op
        obtain ⟨fm, hfm⟩ : ∃ fm, (rv.rowI (ls k).op).form = fm := ⟨_, rfl⟩
        rw [hfm] at HFo hfJ
        cases hfar : al.farE ls N k
        · obtain ⟨e1, e2, e3, e4⟩ := al.near_line ls N k HGd.out hlt hk2 hfar
          rw [hdist] at e2 e3 e4
          obtain ⟨x, hx⟩ : ∃ x, ls k = x := ⟨_, rfl⟩
          rw [hx] at e2 e3 e4 HLa HOk l0 hk2 HAt HFo hfJ him
          obtain ⟨P, hP⟩ : ∃ P, al.pl ls N k = P := ⟨_, rfl⟩
          obtain ⟨Q, hQ⟩ : ∃ Q, al.pl ls N j = Q := ⟨_, rfl⟩
          rw [hQ] at HAt hjb
          rw [hP, hQ] at e2 e3 e4
          rw [e1, hP] at q1 hb3
          rw [hP] at q0 hb2
          obtain ⟨kd, lb, op, rd, rs1, rs2, im⟩ := x
          have hk2 : kd = 2 := hk2
          have him : im = 0 := him
          subst hk2 him
          obtain ⟨l0, l1, l2, l3, l4, l5, l6⟩ := HLa.out
          dsimp only at l0 l1 l2 l3 l4 l5 l6 e2 e3 e4 HAt HFo hfJ
          obtain ⟨gg, rfl, hgg, hwc⟩ : ∃ gg, gw = some ⟨gg, 0, none⟩ ∧ gg < wr.heap.size ∧ wr.cell? ⟨gg, P, none⟩ = some (.int .u32 (rv.encI op rd rs1 rs2 (4 * ((Q : Int) - P)))) := by
            rcases HNw5.out.below HB.out with h | ⟨gg, e, hgg, h⟩
            · omega
            · have hc := h P (by omega)
              rw [e2] at hc
              exact ⟨gg, e, hgg, hc⟩
          have HR : Hid (∀ w' wx : World, Below wr.heap.size wr w' → Below w'.heap.size w' wx → Calls Try.prog 21 #[.slice (some ⟨gg, 0, none⟩) M wcap, .int .i64 P, .int .i64 1, .agg #[.int .i64 op, .int .i64 rd, .int .i64 rs1, .int .i64 rs2, .int .i64 0]] wx fun e w'' => e = .returned (.int .i64 Q) ∧ Below w'.heap.size w' w'') := bl.hid (fun w' wx hb hh => by
            have hb2 : Below wr.heap.size wr wx := hb.trans (hh.mono hb.size)
            have hc : wx.cell? ⟨gg, P, none⟩ = _ := (hb2.cell (p := ⟨gg, P, none⟩) hgg).trans hwc
            have hr := reach_one gg M wcap P ((Q : Int) - P) op rd rs1 rs2 wx (by omega) (by omega) (by omega) (by have := hb2.size; omega) hc e3
            have hQ : (P : Int) + ((Q : Int) - P) = Q := by omega
            rw [hQ] at hr
            exact hr.mono (fun e w'' h => ⟨h.1, hh.trans (h.2.mono hh.size)⟩))
          have hPb : (P : Int) + 1 ≤ M := by omega
          have hm : (P : Int) + 1 - P = 1 := by omega
          have hQb : (Q : Int) ≤ 2200 := by omega
          have hPb2 : (P : Int) ≤ 2200 := by omega
          have HE4 := bl.hid e4
          have HFJ := bl.hid hfJ
          clear e1 e2 e3 e4 hx hP hQ hwc hj hdist hfar hfm hfJ
          go_wp2
          go_quiet (fail)
          go_wp2_with fail
          refine (HAt.out _ (HB.out.drewN' nq)).mono ?_
          rintro e w6 ⟨rfl, rfl⟩
          go_wp2_with fail
          refine (HFo.out _).mono ?_
          rintro e w6 ⟨rfl, hb6⟩
          have hb6' : Below wr.heap.size wr w6 := ((Below.refl _ wr).drewN' nq).trans hb6
          have z0 : w6.cell? ⟨g, k, none⟩ = some (.int .i64 P) := (hb6'.cell (p := ⟨g, k, none⟩) hgr).trans q0
          have z2 : w6.cell? ⟨b, off + k * 7 + 2, none⟩ = some (.int .i64 op) := (hb6'.cell (p := ⟨b, off + k * 7 + 2, none⟩) hbl).trans l2
          have z3 : w6.cell? ⟨b, off + k * 7 + 3, none⟩ = some (.int .i64 rd) := (hb6'.cell (p := ⟨b, off + k * 7 + 3, none⟩) hbl).trans l3
          have z4 : w6.cell? ⟨b, off + k * 7 + 4, none⟩ = some (.int .i64 rs1) := (hb6'.cell (p := ⟨b, off + k * 7 + 4, none⟩) hbl).trans l4
          have z5 : w6.cell? ⟨b, off + k * 7 + 5, none⟩ = some (.int .i64 rs2) := (hb6'.cell (p := ⟨b, off + k * 7 + 5, none⟩) hbl).trans l5
          have z6 : w6.cell? ⟨b, off + k * 7 + 6, none⟩ = some (.int .i64 0) := (hb6'.cell (p := ⟨b, off + k * 7 + 6, none⟩) hbl).trans l6
          have HB6 : Hid (Below w5.heap.size w5 w6) := bl.hid (HB.out.trans (hb6'.mono hs))
          have HR6 := bl.hid hb6'
          have hg6 : g < w6.heap.size := Nat.lt_of_lt_of_le hgr hb6'.size
          have hb66 : b < w6.heap.size := Nat.lt_of_lt_of_le hbl hb6'.size
          clear hb6 hb6' l0 l1 l2 l3 l4 l5 l6 q0 q1
          rcases HE4.out with h3 | ⟨hB, hlo, hhi⟩
          · have hfm := HFJ.out.1 h3
            subst hfm
            clear h3
            go_upto_region 27 with (fail)
            have i0 : (0 : Int) ≤ (k : Int) := by omega
            have i1 : (k : Int) < (N : Int) := by omega
            have i2 : (k : Int) < (N : Int) + 1 := by omega
            have i3 : (k : Int) < ((N + 1 : Nat) : Int) := by omega
            have i4 : decide ((Q : Int) < 0) = false := decide_eq_false (by omega)
            refine wp_region_held_drew (S := (fun w' => w'.cell? ⟨g, k, none⟩ = some (.int .i64 P) ∧ w'.cell? ⟨b, off + k * 7 + 2, none⟩ = some (.int .i64 op) ∧ w'.cell? ⟨b, off + k * 7 + 3, none⟩ = some (.int .i64 rd) ∧ w'.cell? ⟨b, off + k * 7 + 4, none⟩ = some (.int .i64 rs1) ∧ w'.cell? ⟨b, off + k * 7 + 5, none⟩ = some (.int .i64 rs2) ∧ w'.cell? ⟨b, off + k * 7 + 6, none⟩ = some (.int .i64 0))) (by kernel_rfl) ?hS0a (fun hHeld => ?hresta)
            case hS0a => exact ⟨z0, z2, z3, z4, z5, z6⟩
            case hresta =>
              refine wpAnyH_take (i := 0) (v := ?va_0) rfl (by kernel_rfl) (by kernel_rfl) (by kernel_rfl) (fun _ _ _ h => h) (Or.inl ⟨by rfl, ?hya_0⟩) (by assumption) ?hra_0
              case hya_0 => (intro w hSw; (try dsimp only at hSw); go_simp; try with_reducible rfl)
              try simp only [Act.put, List.getElem_toArray, List.getElem_cons_succ, List.getElem_cons_zero, List.setIfInBounds_toArray, List.set_cons_zero, List.set_cons_succ]
              refine wpAnyH_take (i := 1) (v := ?va_1) rfl (by kernel_rfl) (by kernel_rfl) (by kernel_rfl) (fun _ _ _ h => h) (Or.inl ⟨by rfl, ?hya_1⟩) (by assumption) ?hra_1
              case hya_1 => (intro w hSw; (try dsimp only at hSw); go_simp; try with_reducible rfl)
              try simp only [Act.put, List.getElem_toArray, List.getElem_cons_succ, List.getElem_cons_zero, List.setIfInBounds_toArray, List.set_cons_zero, List.set_cons_succ]
              refine wpAnyH_take (i := 2) (v := ?va_2) rfl (by kernel_rfl) (by kernel_rfl) (by kernel_rfl) (fun _ _ _ h => h) (Or.inl ⟨by rfl, ?hya_2⟩) (by assumption) ?hra_2
              case hya_2 => (intro w hSw; (try dsimp only at hSw); go_simp; try with_reducible rfl)
              try simp only [Act.put, List.getElem_toArray, List.getElem_cons_succ, List.getElem_cons_zero, List.setIfInBounds_toArray, List.set_cons_zero, List.set_cons_succ]
              refine wpAnyH_take (i := 3) (v := ?va_3) rfl (by kernel_rfl) (by kernel_rfl) (by kernel_rfl) (fun _ _ _ h => h) (Or.inl ⟨by rfl, ?hya_3⟩) (by assumption) ?hra_3
              case hya_3 => (intro w hSw; (try dsimp only at hSw); go_simp; try with_reducible rfl)
              try simp only [Act.put, List.getElem_toArray, List.getElem_cons_succ, List.getElem_cons_zero, List.setIfInBounds_toArray, List.set_cons_zero, List.set_cons_succ]
              refine wpAnyH_take (i := 4) (v := ?va_4) rfl (by kernel_rfl) (by kernel_rfl) (by kernel_rfl) (fun _ _ _ h => h) (Or.inl ⟨by rfl, ?hya_4⟩) (by assumption) ?hra_4
              case hya_4 => (intro w hSw; (try dsimp only at hSw); go_simp; try with_reducible rfl)
              try simp only [Act.put, List.getElem_toArray, List.getElem_cons_succ, List.getElem_cons_zero, List.setIfInBounds_toArray, List.set_cons_zero, List.set_cons_succ]
              refine wpAnyH_take (i := 5) (v := ?va_5) rfl (by kernel_rfl) (by kernel_rfl) (by kernel_rfl) (fun _ _ _ h => h) (Or.inl ⟨by rfl, ?hya_5⟩) (by assumption) ?hra_5
              case hya_5 => (intro w hSw; (try dsimp only at hSw); go_simp; try with_reducible rfl)
              try simp only [Act.put, List.getElem_toArray, List.getElem_cons_succ, List.getElem_cons_zero, List.setIfInBounds_toArray, List.set_cons_zero, List.set_cons_succ]
              refine wpAnyH_take (i := 6) (v := ?va_6) rfl (by kernel_rfl) (by kernel_rfl) (by kernel_rfl) (fun _ _ _ h => h) (Or.inl ⟨by rfl, ?hya_6⟩) (by assumption) ?hra_6
              case hya_6 => (intro w hSw; (try dsimp only at hSw); go_simp; try with_reducible rfl)
              try simp only [Act.put, List.getElem_toArray, List.getElem_cons_succ, List.getElem_cons_zero, List.setIfInBounds_toArray, List.set_cons_zero, List.set_cons_succ]
              refine wpAnyH_take (i := 7) (v := ?va_7) rfl (by kernel_rfl) (by kernel_rfl) (by kernel_rfl) (fun _ _ _ h => h) (Or.inl ⟨by rfl, ?hya_7⟩) (by assumption) ?hra_7
              case hya_7 => (intro w hSw; (try dsimp only at hSw); go_simp; try with_reducible rfl)
              try simp only [Act.put, List.getElem_toArray, List.getElem_cons_succ, List.getElem_cons_zero, List.setIfInBounds_toArray, List.set_cons_zero, List.set_cons_succ]
              refine wpAnyH_take (i := 8) (v := ?va_8) rfl (by kernel_rfl) (by kernel_rfl) (by kernel_rfl) (fun _ _ _ h => h) (Or.inl ⟨by rfl, ?hya_8⟩) (by assumption) ?hra_8
              case hya_8 => (intro w hSw; (try dsimp only at hSw); go_simp; try with_reducible rfl)
              try simp only [Act.put, List.getElem_toArray, List.getElem_cons_succ, List.getElem_cons_zero, List.setIfInBounds_toArray, List.set_cons_zero, List.set_cons_succ]
              refine wpAnyH_take (i := 9) (v := ?va_9) rfl (by kernel_rfl) (by kernel_rfl) (by kernel_rfl) (fun _ _ _ h => h) (Or.inl ⟨by rfl, ?hya_9⟩) (by assumption) ?hra_9
              case hya_9 => (intro w hSw; (try dsimp only at hSw); go_simp; try with_reducible rfl)
              try simp only [Act.put, List.getElem_toArray, List.getElem_cons_succ, List.getElem_cons_zero, List.setIfInBounds_toArray, List.set_cons_zero, List.set_cons_succ]
              refine wpAnyH_take (i := 10) (v := ?va_10) rfl (by kernel_rfl) (by kernel_rfl) (by kernel_rfl) (fun _ _ _ h => h) (Or.inl ⟨by rfl, ?hya_10⟩) (by assumption) ?hra_10
              case hya_10 => (intro w hSw; (try dsimp only at hSw); go_simp; try with_reducible rfl)
              try simp only [Act.put, List.getElem_toArray, List.getElem_cons_succ, List.getElem_cons_zero, List.setIfInBounds_toArray, List.set_cons_zero, List.set_cons_succ]
              refine wpAnyH_take (i := 11) (v := ?va_11) rfl (by kernel_rfl) (by kernel_rfl) (by kernel_rfl) (fun _ _ _ h => h) (Or.inl ⟨by rfl, ?hya_11⟩) (by assumption) ?hra_11
              case hya_11 => (intro w hSw; (try dsimp only at hSw); go_simp; try with_reducible rfl)
              try simp only [Act.put, List.getElem_toArray, List.getElem_cons_succ, List.getElem_cons_zero, List.setIfInBounds_toArray, List.set_cons_zero, List.set_cons_succ]
              refine wpAnyH_take (i := 12) (v := ?va_12) rfl (by kernel_rfl) (by kernel_rfl) (by kernel_rfl) (fun _ _ _ h => h) (Or.inl ⟨by rfl, ?hya_12⟩) (by assumption) ?hra_12
              case hya_12 => (intro w hSw; (try dsimp only at hSw); go_simp; try with_reducible rfl)
              try simp only [Act.put, List.getElem_toArray, List.getElem_cons_succ, List.getElem_cons_zero, List.setIfInBounds_toArray, List.set_cons_zero, List.set_cons_succ]
              refine wpAnyH_take (i := 13) (v := ?va_13) rfl (by kernel_rfl) (by kernel_rfl) (by kernel_rfl) (fun _ _ _ h => h) (Or.inl ⟨by rfl, ?hya_13⟩) (by assumption) ?hra_13
              case hya_13 => (intro w hSw; (try dsimp only at hSw); go_simp; try with_reducible rfl)
              try simp only [Act.put, List.getElem_toArray, List.getElem_cons_succ, List.getElem_cons_zero, List.setIfInBounds_toArray, List.set_cons_zero, List.set_cons_succ]
              refine wpAnyH_take (i := 15) (v := ?va_15) rfl (by kernel_rfl) (by kernel_rfl) (by kernel_rfl) (fun _ _ _ h => h) (Or.inl ⟨by rfl, ?hya_15⟩) (by assumption) ?hra_15
              case hya_15 => (intro w hSw; (try dsimp only at hSw); go_simp; try with_reducible rfl)
              try simp only [Act.put, List.getElem_toArray, List.getElem_cons_succ, List.getElem_cons_zero, List.setIfInBounds_toArray, List.set_cons_zero, List.set_cons_succ]
              refine wpAnyH_ready (rs := [14]) (by kernel_rfl) (by simp) ?_
              refine AllReadyH.cons rfl (fun K hK => ?_) AllReadyH.nil
              go_simp
              refine (HR.out w6 _ HR6.out ((Below.refl _ _).drew)).mono ?_
              rintro e w7 ⟨rfl, hb7⟩
              have HB7 : Hid (Below w5.heap.size w5 w7) := bl.hid (HB6.out.trans (hb7.mono HB6.out.size))
              have y0 := (hb7.cell (p := ⟨g, k, none⟩) hg6).trans z0
              have y2 := (hb7.cell (p := ⟨b, off + k * 7 + 2, none⟩) hb66).trans z2
              have y3 := (hb7.cell (p := ⟨b, off + k * 7 + 3, none⟩) hb66).trans z3
              have y4 := (hb7.cell (p := ⟨b, off + k * 7 + 4, none⟩) hb66).trans z4
              have y5 := (hb7.cell (p := ⟨b, off + k * 7 + 5, none⟩) hb66).trans z5
              have y6 := (hb7.cell (p := ⟨b, off + k * 7 + 6, none⟩) hb66).trans z6
              clear hb7
              go_wp2_with fail
              refine hK.out _ _ ?hS1a (fun hHeld => ?hrest1a)
              case hS1a => exact ⟨y0, y2, y3, y4, y5, y6⟩
              case hrest1a =>
                clear hK K
                try simp only [Act.put, List.getElem_toArray, List.getElem_cons_succ, List.getElem_cons_zero, List.setIfInBounds_toArray, List.set_cons_zero, List.set_cons_succ]
                refine wpAnyH_take (i := 16) (v := ?va_16) rfl (by kernel_rfl) (by kernel_rfl) (by kernel_rfl) (fun _ _ _ h => h) (Or.inl ⟨by rfl, ?hya_16⟩) (by assumption) ?hra_16
                case hya_16 => (intro w hSw; (try dsimp only at hSw); go_simp; try with_reducible rfl)
                try simp only [Act.put, List.getElem_toArray, List.getElem_cons_succ, List.getElem_cons_zero, List.setIfInBounds_toArray, List.set_cons_zero, List.set_cons_succ]
                refine wpAnyH_take (i := 17) (v := ?va_17) rfl (by kernel_rfl) (by kernel_rfl) (by kernel_rfl) (fun _ _ _ h => h) (Or.inl ⟨by rfl, ?hya_17⟩) (by assumption) ?hra_17
                case hya_17 => (intro w hSw; (try dsimp only at hSw); go_simp; try with_reducible rfl)
                try simp only [Act.put, List.getElem_toArray, List.getElem_cons_succ, List.getElem_cons_zero, List.setIfInBounds_toArray, List.set_cons_zero, List.set_cons_succ]
                refine wpAnyH_take (i := 18) (v := ?va_18) rfl (by kernel_rfl) (by kernel_rfl) (by kernel_rfl) (fun _ _ _ h => h) (Or.inl ⟨by rfl, ?hya_18⟩) (by assumption) ?hra_18
                case hya_18 => (intro w hSw; (try dsimp only at hSw); go_simp; try with_reducible rfl)
                try simp only [Act.put, List.getElem_toArray, List.getElem_cons_succ, List.getElem_cons_zero, List.setIfInBounds_toArray, List.set_cons_zero, List.set_cons_succ]
                refine wpAnyH_take (i := 19) (v := ?va_19) rfl (by kernel_rfl) (by kernel_rfl) (by kernel_rfl) (fun _ _ _ h => h) (Or.inl ⟨by rfl, ?hya_19⟩) (by assumption) ?hra_19
                case hya_19 => (intro w hSw; (try dsimp only at hSw); go_simp; try with_reducible rfl)
                try simp only [Act.put, List.getElem_toArray, List.getElem_cons_succ, List.getElem_cons_zero, List.setIfInBounds_toArray, List.set_cons_zero, List.set_cons_succ]
                refine wpAnyH_take (i := 20) (v := ?va_20) rfl (by kernel_rfl) (by kernel_rfl) (by kernel_rfl) (fun _ _ _ h => h) (Or.inl ⟨by rfl, ?hya_20⟩) (by assumption) ?hra_20
                case hya_20 => (intro w hSw; (try dsimp only at hSw); go_simp; try with_reducible rfl)
                try simp only [Act.put, List.getElem_toArray, List.getElem_cons_succ, List.getElem_cons_zero, List.setIfInBounds_toArray, List.set_cons_zero, List.set_cons_succ]
                refine wpAnyH_take (i := 21) (v := ?va_21) rfl (by kernel_rfl) (by kernel_rfl) (by kernel_rfl) (fun _ _ _ h => h) (Or.inl ⟨by rfl, ?hya_21⟩) (by assumption) ?hra_21
                case hya_21 => (intro w hSw; (try dsimp only at hSw); go_simp; try with_reducible rfl)
                try simp only [Act.put, List.getElem_toArray, List.getElem_cons_succ, List.getElem_cons_zero, List.setIfInBounds_toArray, List.set_cons_zero, List.set_cons_succ]
                refine wpAnyH_take (i := 22) (v := ?va_22) rfl (by kernel_rfl) (by kernel_rfl) (by kernel_rfl) (fun _ _ _ h => h) (Or.inl ⟨by rfl, ?hya_22⟩) (by assumption) ?hra_22
                case hya_22 => (intro w hSw; (try dsimp only at hSw); go_simp; try with_reducible rfl)
                try simp only [Act.put, List.getElem_toArray, List.getElem_cons_succ, List.getElem_cons_zero, List.setIfInBounds_toArray, List.set_cons_zero, List.set_cons_succ]
                refine wpAnyH_take (i := 23) (v := ?va_23) rfl (by kernel_rfl) (by kernel_rfl) (by kernel_rfl) (fun _ _ _ h => h) (Or.inl ⟨by rfl, ?hya_23⟩) (by assumption) ?hra_23
                case hya_23 => (intro w hSw; (try dsimp only at hSw); go_simp; try with_reducible rfl)
                try simp only [Act.put, List.getElem_toArray, List.getElem_cons_succ, List.getElem_cons_zero, List.setIfInBounds_toArray, List.set_cons_zero, List.set_cons_succ]
                refine wpAnyH_take (i := 24) (v := ?va_24) rfl (by kernel_rfl) (by kernel_rfl) (by kernel_rfl) (fun _ _ _ h => h) (Or.inl ⟨by rfl, ?hya_24⟩) (by assumption) ?hra_24
                case hya_24 => (intro w hSw; (try dsimp only at hSw); go_simp; try with_reducible rfl)
                try simp only [Act.put, List.getElem_toArray, List.getElem_cons_succ, List.getElem_cons_zero, List.setIfInBounds_toArray, List.set_cons_zero, List.set_cons_succ]
                refine wpAnyH_take (i := 25) (v := ?va_25) rfl (by kernel_rfl) (by kernel_rfl) (by kernel_rfl) (fun _ _ _ h => h) (Or.inl ⟨by rfl, ?hya_25⟩) (by assumption) ?hra_25
                case hya_25 => (intro w hSw; (try dsimp only at hSw); go_simp; try with_reducible rfl)
                try simp only [Act.put, List.getElem_toArray, List.getElem_cons_succ, List.getElem_cons_zero, List.setIfInBounds_toArray, List.set_cons_zero, List.set_cons_succ]
                refine wpAnyH_take (i := 26) (v := ?va_26) rfl (by kernel_rfl) (by kernel_rfl) (by kernel_rfl) (fun _ _ _ h => h) (Or.inl ⟨by rfl, ?hya_26⟩) (by assumption) ?hra_26
                case hya_26 => (intro w hSw; (try dsimp only at hSw); go_simp; try with_reducible rfl)
                try simp only [Act.put, List.getElem_toArray, List.getElem_cons_succ, List.getElem_cons_zero, List.setIfInBounds_toArray, List.set_cons_zero, List.set_cons_succ]
                refine wpAnyH_take (i := 27) (v := ?va_27) rfl (by kernel_rfl) (by kernel_rfl) (by kernel_rfl) (fun _ _ _ h => h) (Or.inl ⟨by rfl, ?hya_27⟩) (by assumption) ?hra_27
                case hya_27 => (intro w hSw; (try dsimp only at hSw); go_simp; try with_reducible rfl)
                try simp only [Act.put, List.getElem_toArray, List.getElem_cons_succ, List.getElem_cons_zero, List.setIfInBounds_toArray, List.set_cons_zero, List.set_cons_succ]
                refine wpAnyH_take (i := 28) (v := ?va_28) rfl (by kernel_rfl) (by kernel_rfl) (by kernel_rfl) (fun _ _ _ h => h) (Or.inl ⟨by rfl, ?hya_28⟩) (by assumption) ?hra_28
                case hya_28 => (intro w hSw; (try dsimp only at hSw); go_simp; try with_reducible rfl)
                try simp only [Act.put, List.getElem_toArray, List.getElem_cons_succ, List.getElem_cons_zero, List.setIfInBounds_toArray, List.set_cons_zero, List.set_cons_succ]
                refine wpAnyH_take (i := 29) (v := ?va_29) rfl (by kernel_rfl) (by kernel_rfl) (by kernel_rfl) (fun _ _ _ h => h) (Or.inl ⟨by rfl, ?hya_29⟩) (by assumption) ?hra_29
                case hya_29 => (intro w hSw; (try dsimp only at hSw); go_simp; try with_reducible rfl)
                try simp only [Act.put, List.getElem_toArray, List.getElem_cons_succ, List.getElem_cons_zero, List.setIfInBounds_toArray, List.set_cons_zero, List.set_cons_succ]
                refine wpAnyH_take (i := 30) (v := undef) rfl (by kernel_rfl) (by kernel_rfl) (by kernel_rfl) (fun _ _ _ h => h) (Or.inr ⟨by rfl, rfl⟩) (by assumption) ?_
                try simp only [Act.put, List.getElem_toArray, List.getElem_cons_succ, List.getElem_cons_zero, List.setIfInBounds_toArray, List.set_cons_zero, List.set_cons_succ]
                refine wpAnyH_take (i := 31) (v := ?va_31) rfl (by kernel_rfl) (by kernel_rfl) (by kernel_rfl) (fun _ _ _ h => h) (Or.inl ⟨by rfl, ?hya_31⟩) (by assumption) ?hra_31
                case hya_31 => (intro w hSw; (try dsimp only at hSw); go_simp; try with_reducible rfl)
                try simp only [Act.put, List.getElem_toArray, List.getElem_cons_succ, List.getElem_cons_zero, List.setIfInBounds_toArray, List.set_cons_zero, List.set_cons_succ]
                refine wpAnyH_take (i := 32) (v := ?va_32) rfl (by kernel_rfl) (by kernel_rfl) (by kernel_rfl) (fun _ _ _ h => h) (Or.inl ⟨by rfl, ?hya_32⟩) (by assumption) ?hra_32
                case hya_32 => (intro w hSw; (try dsimp only at hSw); go_simp; try with_reducible rfl)
                try simp only [Act.put, List.getElem_toArray, List.getElem_cons_succ, List.getElem_cons_zero, List.setIfInBounds_toArray, List.set_cons_zero, List.set_cons_succ]
                refine wpAnyH_done (by kernel_rfl) ?_ _
                go_wp2
                exact ⟨⟨k + 1, by omega, by go_num, HB7.out⟩, by simp [intOf]; omega⟩
          · have hnJ : (fm.toList == [74]) = false := HFJ.out.2 (by have := of_decide_eq_true hB; omega)
            clear hB
            go_upto_region 27 with (fail)
            have i0 : (0 : Int) ≤ (k : Int) := by omega
            have i1 : (k : Int) < (N : Int) := by omega
            have i2 : (k : Int) < (N : Int) + 1 := by omega
            have i3 : (k : Int) < ((N + 1 : Nat) : Int) := by omega
            have i4 : decide ((Q : Int) < 0) = false := decide_eq_false (by omega)
            refine wp_region_held_drew (S := (fun w' => w'.cell? ⟨g, k, none⟩ = some (.int .i64 P) ∧ w'.cell? ⟨b, off + k * 7 + 2, none⟩ = some (.int .i64 op) ∧ w'.cell? ⟨b, off + k * 7 + 3, none⟩ = some (.int .i64 rd) ∧ w'.cell? ⟨b, off + k * 7 + 4, none⟩ = some (.int .i64 rs1) ∧ w'.cell? ⟨b, off + k * 7 + 5, none⟩ = some (.int .i64 rs2) ∧ w'.cell? ⟨b, off + k * 7 + 6, none⟩ = some (.int .i64 0))) (by kernel_rfl) ?hS0b (fun hHeld => ?hrestb)
            case hS0b => exact ⟨z0, z2, z3, z4, z5, z6⟩
            case hrestb =>
              refine wpAnyH_take (i := 0) (v := ?vb_0) rfl (by kernel_rfl) (by kernel_rfl) (by kernel_rfl) (fun _ _ _ h => h) (Or.inl ⟨by rfl, ?hyb_0⟩) (by assumption) ?hrb_0
              case hyb_0 => (intro w hSw; (try dsimp only at hSw); go_simp; try with_reducible rfl)
              try simp only [Act.put, List.getElem_toArray, List.getElem_cons_succ, List.getElem_cons_zero, List.setIfInBounds_toArray, List.set_cons_zero, List.set_cons_succ]
              refine wpAnyH_take (i := 1) (v := ?vb_1) rfl (by kernel_rfl) (by kernel_rfl) (by kernel_rfl) (fun _ _ _ h => h) (Or.inl ⟨by rfl, ?hyb_1⟩) (by assumption) ?hrb_1
              case hyb_1 => (intro w hSw; (try dsimp only at hSw); go_simp; try with_reducible rfl)
              try simp only [Act.put, List.getElem_toArray, List.getElem_cons_succ, List.getElem_cons_zero, List.setIfInBounds_toArray, List.set_cons_zero, List.set_cons_succ]
              refine wpAnyH_take (i := 2) (v := ?vb_2) rfl (by kernel_rfl) (by kernel_rfl) (by kernel_rfl) (fun _ _ _ h => h) (Or.inl ⟨by rfl, ?hyb_2⟩) (by assumption) ?hrb_2
              case hyb_2 => (intro w hSw; (try dsimp only at hSw); go_simp; try with_reducible rfl)
              try simp only [Act.put, List.getElem_toArray, List.getElem_cons_succ, List.getElem_cons_zero, List.setIfInBounds_toArray, List.set_cons_zero, List.set_cons_succ]
              refine wpAnyH_take (i := 3) (v := ?vb_3) rfl (by kernel_rfl) (by kernel_rfl) (by kernel_rfl) (fun _ _ _ h => h) (Or.inl ⟨by rfl, ?hyb_3⟩) (by assumption) ?hrb_3
              case hyb_3 => (intro w hSw; (try dsimp only at hSw); go_simp; try with_reducible rfl)
              try simp only [Act.put, List.getElem_toArray, List.getElem_cons_succ, List.getElem_cons_zero, List.setIfInBounds_toArray, List.set_cons_zero, List.set_cons_succ]
              refine wpAnyH_take (i := 4) (v := ?vb_4) rfl (by kernel_rfl) (by kernel_rfl) (by kernel_rfl) (fun _ _ _ h => h) (Or.inl ⟨by rfl, ?hyb_4⟩) (by assumption) ?hrb_4
              case hyb_4 => (intro w hSw; (try dsimp only at hSw); go_simp; try with_reducible rfl)
              try simp only [Act.put, List.getElem_toArray, List.getElem_cons_succ, List.getElem_cons_zero, List.setIfInBounds_toArray, List.set_cons_zero, List.set_cons_succ]
              refine wpAnyH_take (i := 5) (v := ?vb_5) rfl (by kernel_rfl) (by kernel_rfl) (by kernel_rfl) (fun _ _ _ h => h) (Or.inl ⟨by rfl, ?hyb_5⟩) (by assumption) ?hrb_5
              case hyb_5 => (intro w hSw; (try dsimp only at hSw); go_simp; try with_reducible rfl)
              try simp only [Act.put, List.getElem_toArray, List.getElem_cons_succ, List.getElem_cons_zero, List.setIfInBounds_toArray, List.set_cons_zero, List.set_cons_succ]
              refine wpAnyH_take (i := 6) (v := ?vb_6) rfl (by kernel_rfl) (by kernel_rfl) (by kernel_rfl) (fun _ _ _ h => h) (Or.inl ⟨by rfl, ?hyb_6⟩) (by assumption) ?hrb_6
              case hyb_6 => (intro w hSw; (try dsimp only at hSw); go_simp; try with_reducible rfl)
              try simp only [Act.put, List.getElem_toArray, List.getElem_cons_succ, List.getElem_cons_zero, List.setIfInBounds_toArray, List.set_cons_zero, List.set_cons_succ]
              refine wpAnyH_take (i := 7) (v := ?vb_7) rfl (by kernel_rfl) (by kernel_rfl) (by kernel_rfl) (fun _ _ _ h => h) (Or.inl ⟨by rfl, ?hyb_7⟩) (by assumption) ?hrb_7
              case hyb_7 => (intro w hSw; (try dsimp only at hSw); go_simp; try with_reducible rfl)
              try simp only [Act.put, List.getElem_toArray, List.getElem_cons_succ, List.getElem_cons_zero, List.setIfInBounds_toArray, List.set_cons_zero, List.set_cons_succ]
              refine wpAnyH_take (i := 8) (v := ?vb_8) rfl (by kernel_rfl) (by kernel_rfl) (by kernel_rfl) (fun _ _ _ h => h) (Or.inl ⟨by rfl, ?hyb_8⟩) (by assumption) ?hrb_8
              case hyb_8 => (intro w hSw; (try dsimp only at hSw); go_simp; try with_reducible rfl)
              try simp only [Act.put, List.getElem_toArray, List.getElem_cons_succ, List.getElem_cons_zero, List.setIfInBounds_toArray, List.set_cons_zero, List.set_cons_succ]
              refine wpAnyH_take (i := 9) (v := ?vb_9) rfl (by kernel_rfl) (by kernel_rfl) (by kernel_rfl) (fun _ _ _ h => h) (Or.inl ⟨by rfl, ?hyb_9⟩) (by assumption) ?hrb_9
              case hyb_9 => (intro w hSw; (try dsimp only at hSw); go_simp; try with_reducible rfl)
              try simp only [Act.put, List.getElem_toArray, List.getElem_cons_succ, List.getElem_cons_zero, List.setIfInBounds_toArray, List.set_cons_zero, List.set_cons_succ]
              refine wpAnyH_take (i := 10) (v := ?vb_10) rfl (by kernel_rfl) (by kernel_rfl) (by kernel_rfl) (fun _ _ _ h => h) (Or.inl ⟨by rfl, ?hyb_10⟩) (by assumption) ?hrb_10
              case hyb_10 => (intro w hSw; (try dsimp only at hSw); go_simp; try with_reducible rfl)
              try simp only [Act.put, List.getElem_toArray, List.getElem_cons_succ, List.getElem_cons_zero, List.setIfInBounds_toArray, List.set_cons_zero, List.set_cons_succ]
              refine wpAnyH_take (i := 11) (v := ?vb_11) rfl (by kernel_rfl) (by kernel_rfl) (by kernel_rfl) (fun _ _ _ h => h) (Or.inl ⟨by rfl, ?hyb_11⟩) (by assumption) ?hrb_11
              case hyb_11 => (intro w hSw; (try dsimp only at hSw); go_simp; try with_reducible rfl)
              try simp only [Act.put, List.getElem_toArray, List.getElem_cons_succ, List.getElem_cons_zero, List.setIfInBounds_toArray, List.set_cons_zero, List.set_cons_succ]
              refine wpAnyH_take (i := 12) (v := ?vb_12) rfl (by kernel_rfl) (by kernel_rfl) (by kernel_rfl) (fun _ _ _ h => h) (Or.inl ⟨by rfl, ?hyb_12⟩) (by assumption) ?hrb_12
              case hyb_12 => (intro w hSw; (try dsimp only at hSw); go_simp; try with_reducible rfl)
              try simp only [Act.put, List.getElem_toArray, List.getElem_cons_succ, List.getElem_cons_zero, List.setIfInBounds_toArray, List.set_cons_zero, List.set_cons_succ]
              refine wpAnyH_take (i := 13) (v := ?vb_13) rfl (by kernel_rfl) (by kernel_rfl) (by kernel_rfl) (fun _ _ _ h => h) (Or.inl ⟨by rfl, ?hyb_13⟩) (by assumption) ?hrb_13
              case hyb_13 => (intro w hSw; (try dsimp only at hSw); go_simp; try with_reducible rfl)
              try simp only [Act.put, List.getElem_toArray, List.getElem_cons_succ, List.getElem_cons_zero, List.setIfInBounds_toArray, List.set_cons_zero, List.set_cons_succ]
              refine wpAnyH_take (i := 15) (v := ?vb_15) rfl (by kernel_rfl) (by kernel_rfl) (by kernel_rfl) (fun _ _ _ h => h) (Or.inl ⟨by rfl, ?hyb_15⟩) (by assumption) ?hrb_15
              case hyb_15 => (intro w hSw; (try dsimp only at hSw); go_simp; try with_reducible rfl)
              try simp only [Act.put, List.getElem_toArray, List.getElem_cons_succ, List.getElem_cons_zero, List.setIfInBounds_toArray, List.set_cons_zero, List.set_cons_succ]
              refine wpAnyH_ready (rs := [14]) (by kernel_rfl) (by simp) ?_
              refine AllReadyH.cons rfl (fun K hK => ?_) AllReadyH.nil
              go_simp
              refine (HR.out w6 _ HR6.out ((Below.refl _ _).drew)).mono ?_
              rintro e w7 ⟨rfl, hb7⟩
              have HB7 : Hid (Below w5.heap.size w5 w7) := bl.hid (HB6.out.trans (hb7.mono HB6.out.size))
              have y0 := (hb7.cell (p := ⟨g, k, none⟩) hg6).trans z0
              have y2 := (hb7.cell (p := ⟨b, off + k * 7 + 2, none⟩) hb66).trans z2
              have y3 := (hb7.cell (p := ⟨b, off + k * 7 + 3, none⟩) hb66).trans z3
              have y4 := (hb7.cell (p := ⟨b, off + k * 7 + 4, none⟩) hb66).trans z4
              have y5 := (hb7.cell (p := ⟨b, off + k * 7 + 5, none⟩) hb66).trans z5
              have y6 := (hb7.cell (p := ⟨b, off + k * 7 + 6, none⟩) hb66).trans z6
              clear hb7
              go_wp2_with fail
              refine hK.out _ _ ?hS1b (fun hHeld => ?hrest1b)
              case hS1b => exact ⟨y0, y2, y3, y4, y5, y6⟩
              case hrest1b =>
                clear hK K
                try simp only [Act.put, List.getElem_toArray, List.getElem_cons_succ, List.getElem_cons_zero, List.setIfInBounds_toArray, List.set_cons_zero, List.set_cons_succ]
                refine wpAnyH_take (i := 16) (v := ?vb_16) rfl (by kernel_rfl) (by kernel_rfl) (by kernel_rfl) (fun _ _ _ h => h) (Or.inl ⟨by rfl, ?hyb_16⟩) (by assumption) ?hrb_16
                case hyb_16 => (intro w hSw; (try dsimp only at hSw); go_simp; try with_reducible rfl)
                try simp only [Act.put, List.getElem_toArray, List.getElem_cons_succ, List.getElem_cons_zero, List.setIfInBounds_toArray, List.set_cons_zero, List.set_cons_succ]
                refine wpAnyH_take (i := 17) (v := ?vb_17) rfl (by kernel_rfl) (by kernel_rfl) (by kernel_rfl) (fun _ _ _ h => h) (Or.inl ⟨by rfl, ?hyb_17⟩) (by assumption) ?hrb_17
                case hyb_17 => (intro w hSw; (try dsimp only at hSw); go_simp; try with_reducible rfl)
                try simp only [Act.put, List.getElem_toArray, List.getElem_cons_succ, List.getElem_cons_zero, List.setIfInBounds_toArray, List.set_cons_zero, List.set_cons_succ]
                refine wpAnyH_take (i := 18) (v := ?vb_18) rfl (by kernel_rfl) (by kernel_rfl) (by kernel_rfl) (fun _ _ _ h => h) (Or.inl ⟨by rfl, ?hyb_18⟩) (by assumption) ?hrb_18
                case hyb_18 => (intro w hSw; (try dsimp only at hSw); go_simp; try with_reducible rfl)
                try simp only [Act.put, List.getElem_toArray, List.getElem_cons_succ, List.getElem_cons_zero, List.setIfInBounds_toArray, List.set_cons_zero, List.set_cons_succ]
                refine wpAnyH_take (i := 19) (v := ?vb_19) rfl (by kernel_rfl) (by kernel_rfl) (by kernel_rfl) (fun _ _ _ h => h) (Or.inl ⟨by rfl, ?hyb_19⟩) (by assumption) ?hrb_19
                case hyb_19 => (intro w hSw; (try dsimp only at hSw); go_simp; try with_reducible rfl)
                try simp only [Act.put, List.getElem_toArray, List.getElem_cons_succ, List.getElem_cons_zero, List.setIfInBounds_toArray, List.set_cons_zero, List.set_cons_succ]
                refine wpAnyH_take (i := 20) (v := ?vb_20) rfl (by kernel_rfl) (by kernel_rfl) (by kernel_rfl) (fun _ _ _ h => h) (Or.inl ⟨by rfl, ?hyb_20⟩) (by assumption) ?hrb_20
                case hyb_20 => (intro w hSw; (try dsimp only at hSw); go_simp; try with_reducible rfl)
                try simp only [Act.put, List.getElem_toArray, List.getElem_cons_succ, List.getElem_cons_zero, List.setIfInBounds_toArray, List.set_cons_zero, List.set_cons_succ]
                refine wpAnyH_take (i := 21) (v := ?vb_21) rfl (by kernel_rfl) (by kernel_rfl) (by kernel_rfl) (fun _ _ _ h => h) (Or.inl ⟨by rfl, ?hyb_21⟩) (by assumption) ?hrb_21
                case hyb_21 => (intro w hSw; (try dsimp only at hSw); go_simp; try with_reducible rfl)
                try simp only [Act.put, List.getElem_toArray, List.getElem_cons_succ, List.getElem_cons_zero, List.setIfInBounds_toArray, List.set_cons_zero, List.set_cons_succ]
                refine wpAnyH_take (i := 22) (v := ?vb_22) rfl (by kernel_rfl) (by kernel_rfl) (by kernel_rfl) (fun _ _ _ h => h) (Or.inl ⟨by rfl, ?hyb_22⟩) (by assumption) ?hrb_22
                case hyb_22 => (intro w hSw; (try dsimp only at hSw); go_simp; try with_reducible rfl)
                try simp only [Act.put, List.getElem_toArray, List.getElem_cons_succ, List.getElem_cons_zero, List.setIfInBounds_toArray, List.set_cons_zero, List.set_cons_succ]
                refine wpAnyH_take (i := 23) (v := ?vb_23) rfl (by kernel_rfl) (by kernel_rfl) (by kernel_rfl) (fun _ _ _ h => h) (Or.inl ⟨by rfl, ?hyb_23⟩) (by assumption) ?hrb_23
                case hyb_23 => (intro w hSw; (try dsimp only at hSw); go_simp; try with_reducible rfl)
                try simp only [Act.put, List.getElem_toArray, List.getElem_cons_succ, List.getElem_cons_zero, List.setIfInBounds_toArray, List.set_cons_zero, List.set_cons_succ]
                refine wpAnyH_take (i := 24) (v := ?vb_24) rfl (by kernel_rfl) (by kernel_rfl) (by kernel_rfl) (fun _ _ _ h => h) (Or.inl ⟨by rfl, ?hyb_24⟩) (by assumption) ?hrb_24
                case hyb_24 => (intro w hSw; (try dsimp only at hSw); go_simp; try with_reducible rfl)
                try simp only [Act.put, List.getElem_toArray, List.getElem_cons_succ, List.getElem_cons_zero, List.setIfInBounds_toArray, List.set_cons_zero, List.set_cons_succ]
                refine wpAnyH_take (i := 25) (v := ?vb_25) rfl (by kernel_rfl) (by kernel_rfl) (by kernel_rfl) (fun _ _ _ h => h) (Or.inl ⟨by rfl, ?hyb_25⟩) (by assumption) ?hrb_25
                case hyb_25 => (intro w hSw; (try dsimp only at hSw); go_simp; try with_reducible rfl)
                try simp only [Act.put, List.getElem_toArray, List.getElem_cons_succ, List.getElem_cons_zero, List.setIfInBounds_toArray, List.set_cons_zero, List.set_cons_succ]
                refine wpAnyH_take (i := 26) (v := ?vb_26) rfl (by kernel_rfl) (by kernel_rfl) (by kernel_rfl) (fun _ _ _ h => h) (Or.inl ⟨by rfl, ?hyb_26⟩) (by assumption) ?hrb_26
                case hyb_26 => (intro w hSw; (try dsimp only at hSw); go_simp; try with_reducible rfl)
                try simp only [Act.put, List.getElem_toArray, List.getElem_cons_succ, List.getElem_cons_zero, List.setIfInBounds_toArray, List.set_cons_zero, List.set_cons_succ]
                refine wpAnyH_take (i := 27) (v := ?vb_27) rfl (by kernel_rfl) (by kernel_rfl) (by kernel_rfl) (fun _ _ _ h => h) (Or.inl ⟨by rfl, ?hyb_27⟩) (by assumption) ?hrb_27
                case hyb_27 => (intro w hSw; (try dsimp only at hSw); go_simp; try with_reducible rfl)
                try simp only [Act.put, List.getElem_toArray, List.getElem_cons_succ, List.getElem_cons_zero, List.setIfInBounds_toArray, List.set_cons_zero, List.set_cons_succ]
                refine wpAnyH_take (i := 28) (v := ?vb_28) rfl (by kernel_rfl) (by kernel_rfl) (by kernel_rfl) (fun _ _ _ h => h) (Or.inl ⟨by rfl, ?hyb_28⟩) (by assumption) ?hrb_28
                case hyb_28 => (intro w hSw; (try dsimp only at hSw); go_simp; try with_reducible rfl)
                try simp only [Act.put, List.getElem_toArray, List.getElem_cons_succ, List.getElem_cons_zero, List.setIfInBounds_toArray, List.set_cons_zero, List.set_cons_succ]
                refine wpAnyH_take (i := 29) (v := ?vb_29) rfl (by kernel_rfl) (by kernel_rfl) (by kernel_rfl) (fun _ _ _ h => h) (Or.inl ⟨by rfl, ?hyb_29⟩) (by assumption) ?hrb_29
                case hyb_29 => (intro w hSw; (try dsimp only at hSw); go_simp; try with_reducible rfl)
                try simp only [Act.put, List.getElem_toArray, List.getElem_cons_succ, List.getElem_cons_zero, List.setIfInBounds_toArray, List.set_cons_zero, List.set_cons_succ]
                refine wpAnyH_take (i := 30) (v := undef) rfl (by kernel_rfl) (by kernel_rfl) (by kernel_rfl) (fun _ _ _ h => h) (Or.inr ⟨by rfl, rfl⟩) (by assumption) ?_
                try simp only [Act.put, List.getElem_toArray, List.getElem_cons_succ, List.getElem_cons_zero, List.setIfInBounds_toArray, List.set_cons_zero, List.set_cons_succ]
                refine wpAnyH_take (i := 31) (v := ?vb_31) rfl (by kernel_rfl) (by kernel_rfl) (by kernel_rfl) (fun _ _ _ h => h) (Or.inl ⟨by rfl, ?hyb_31⟩) (by assumption) ?hrb_31
                case hyb_31 => (intro w hSw; (try dsimp only at hSw); go_simp; try with_reducible rfl)
                try simp only [Act.put, List.getElem_toArray, List.getElem_cons_succ, List.getElem_cons_zero, List.setIfInBounds_toArray, List.set_cons_zero, List.set_cons_succ]
                refine wpAnyH_take (i := 32) (v := ?vb_32) rfl (by kernel_rfl) (by kernel_rfl) (by kernel_rfl) (fun _ _ _ h => h) (Or.inl ⟨by rfl, ?hyb_32⟩) (by assumption) ?hrb_32
                case hyb_32 => (intro w hSw; (try dsimp only at hSw); go_simp; try with_reducible rfl)
                try simp only [Act.put, List.getElem_toArray, List.getElem_cons_succ, List.getElem_cons_zero, List.setIfInBounds_toArray, List.set_cons_zero, List.set_cons_succ]
                refine wpAnyH_done (by kernel_rfl) ?_ _
                go_wp2
                exact ⟨⟨k + 1, by omega, by go_num, HB7.out⟩, by simp [intOf]; omega⟩
        · obtain ⟨e1, e2, e2b, e3, e3b, e4⟩ := al.far_line ls N k HGd.out hlt hk2 hfar
          rw [hdist] at e2b e3b e4
          obtain ⟨x, hx⟩ : ∃ x, ls k = x := ⟨_, rfl⟩
          rw [hx] at e2 e3 e4 HLa HOk l0 hk2 HAt HFo hfJ him
          obtain ⟨P, hP⟩ : ∃ P, al.pl ls N k = P := ⟨_, rfl⟩
          obtain ⟨Q, hQ⟩ : ∃ Q, al.pl ls N j = Q := ⟨_, rfl⟩
          rw [hQ] at HAt hjb
          rw [hP] at e2
          rw [hP, hQ] at e2b e3b e4
          rw [e1, hP] at q1 hb3
          rw [hP] at q0 hb2
          obtain ⟨kd, lb, op, rd, rs1, rs2, im⟩ := x
          have hk2 : kd = 2 := hk2
          have him : im = 0 := him
          subst hk2 him
          obtain ⟨l0, l1, l2, l3, l4, l5, l6⟩ := HLa.out
          dsimp only at l0 l1 l2 l3 l4 l5 l6 e2 e3 e4 HAt HFo hfJ
          obtain ⟨gg, rfl, hgg, hwc, hwc2⟩ : ∃ gg, gw = some ⟨gg, 0, none⟩ ∧ gg < wr.heap.size ∧ wr.cell? ⟨gg, P, none⟩ = some (.int .u32 (rv.encI (al.inv op) rd rs1 rs2 8)) ∧ wr.cell? ⟨gg, P + 1, none⟩ = some (.int .u32 (rv.encI 3 0 0 0 (4 * ((Q : Int) - P) - 4))) := by
            rcases HNw5.out.below HB.out with h | ⟨gg, e, hgg, h⟩
            · omega
            · have hc := h P (by omega)
              have hc2 := h (P + 1) (by omega)
              rw [e2] at hc
              rw [e2b] at hc2
              exact ⟨gg, e, hgg, hc, hc2⟩
          have hop := HOk.out.op
          obtain ⟨v1, v2, v3⟩ := al.isB_inv op e4.1
          have hiv := of_decide_eq_true v1
          have HR : Hid (∀ w' wx : World, Below wr.heap.size wr w' → Below w'.heap.size w' wx → Calls Try.prog 21 #[.slice (some ⟨gg, 0, none⟩) M wcap, .int .i64 P, .int .i64 2, .agg #[.int .i64 op, .int .i64 rd, .int .i64 rs1, .int .i64 rs2, .int .i64 0]] wx fun e w'' => e = .returned (.int .i64 Q) ∧ Below w'.heap.size w' w'') := bl.hid (fun w' wx hb hh => by
            have hb2 : Below wr.heap.size wr wx := hb.trans (hh.mono hb.size)
            have hc : wx.cell? ⟨gg, P, none⟩ = _ := (hb2.cell (p := ⟨gg, P, none⟩) hgg).trans hwc
            have hc2 : wx.cell? ⟨gg, P + 1, none⟩ = _ := (hb2.cell (p := ⟨gg, P + 1, none⟩) hgg).trans hwc2
            have hr := reach_two gg M wcap P ((Q : Int) - P) op rd rs1 rs2 (al.inv op) wx (by omega) (by omega) (by omega) (by have := hb2.size; omega) hc hc2 e3 e3b hop (by omega) rfl v2
            have hQ : (P : Int) + ((Q : Int) - P) = Q := by omega
            rw [hQ] at hr
            exact hr.mono (fun e w'' h => ⟨h.1, hh.trans (h.2.mono hh.size)⟩))
          have hPb : (P : Int) + 2 ≤ M := by omega
          have hm : (P : Int) + 2 - P = 2 := by omega
          have hQb : (Q : Int) ≤ 2200 := by omega
          have hPb2 : (P : Int) ≤ 2200 := by omega
          have HE4 := bl.hid e4
          have hnJ : (fm.toList == [74]) = false := hfJ.2 (by have := of_decide_eq_true e4.1; omega)
          have HFJ := bl.hid hfJ
          clear e1 e2 e2b e3 e3b e4 hx hP hQ hwc hwc2 hop v1 v2 v3 hiv hj hdist hfar hfm hfJ
          rcases HE4.out.2 with hd | hd
          · have hd2 : decide (-4096 ≤ 4 * ((Q : Int) - P)) = false := decide_eq_false (by omega)
            go_wp2
            go_quiet (fail)
            go_wp2_with fail
            refine (HAt.out _ (HB.out.drewN' nq)).mono ?_
            rintro e w6 ⟨rfl, rfl⟩
            go_wp2_with fail
            refine (HFo.out _).mono ?_
            rintro e w6 ⟨rfl, hb6⟩
            have hb6' : Below wr.heap.size wr w6 := ((Below.refl _ wr).drewN' nq).trans hb6
            have z0 : w6.cell? ⟨g, k, none⟩ = some (.int .i64 P) := (hb6'.cell (p := ⟨g, k, none⟩) hgr).trans q0
            have z2 : w6.cell? ⟨b, off + k * 7 + 2, none⟩ = some (.int .i64 op) := (hb6'.cell (p := ⟨b, off + k * 7 + 2, none⟩) hbl).trans l2
            have z3 : w6.cell? ⟨b, off + k * 7 + 3, none⟩ = some (.int .i64 rd) := (hb6'.cell (p := ⟨b, off + k * 7 + 3, none⟩) hbl).trans l3
            have z4 : w6.cell? ⟨b, off + k * 7 + 4, none⟩ = some (.int .i64 rs1) := (hb6'.cell (p := ⟨b, off + k * 7 + 4, none⟩) hbl).trans l4
            have z5 : w6.cell? ⟨b, off + k * 7 + 5, none⟩ = some (.int .i64 rs2) := (hb6'.cell (p := ⟨b, off + k * 7 + 5, none⟩) hbl).trans l5
            have z6 : w6.cell? ⟨b, off + k * 7 + 6, none⟩ = some (.int .i64 0) := (hb6'.cell (p := ⟨b, off + k * 7 + 6, none⟩) hbl).trans l6
            have HB6 : Hid (Below w5.heap.size w5 w6) := bl.hid (HB.out.trans (hb6'.mono hs))
            have HR6 := bl.hid hb6'
            have hg6 : g < w6.heap.size := Nat.lt_of_lt_of_le hgr hb6'.size
            have hb66 : b < w6.heap.size := Nat.lt_of_lt_of_le hbl hb6'.size
            clear hb6 hb6' l0 l1 l2 l3 l4 l5 l6 q0 q1
            go_upto_region 27 with (fail)
            have i0 : (0 : Int) ≤ (k : Int) := by omega
            have i1 : (k : Int) < (N : Int) := by omega
            have i2 : (k : Int) < (N : Int) + 1 := by omega
            have i3 : (k : Int) < ((N + 1 : Nat) : Int) := by omega
            have i4 : decide ((Q : Int) < 0) = false := decide_eq_false (by omega)
            refine wp_region_held_drew (S := (fun w' => w'.cell? ⟨g, k, none⟩ = some (.int .i64 P) ∧ w'.cell? ⟨b, off + k * 7 + 2, none⟩ = some (.int .i64 op) ∧ w'.cell? ⟨b, off + k * 7 + 3, none⟩ = some (.int .i64 rd) ∧ w'.cell? ⟨b, off + k * 7 + 4, none⟩ = some (.int .i64 rs1) ∧ w'.cell? ⟨b, off + k * 7 + 5, none⟩ = some (.int .i64 rs2) ∧ w'.cell? ⟨b, off + k * 7 + 6, none⟩ = some (.int .i64 0))) (by kernel_rfl) ?hS0c (fun hHeld => ?hrestc)
            case hS0c => exact ⟨z0, z2, z3, z4, z5, z6⟩
            case hrestc =>
              refine wpAnyH_take (i := 0) (v := ?vc_0) rfl (by kernel_rfl) (by kernel_rfl) (by kernel_rfl) (fun _ _ _ h => h) (Or.inl ⟨by rfl, ?hyc_0⟩) (by assumption) ?hrc_0
              case hyc_0 => (intro w hSw; (try dsimp only at hSw); go_simp; try with_reducible rfl)
              try simp only [Act.put, List.getElem_toArray, List.getElem_cons_succ, List.getElem_cons_zero, List.setIfInBounds_toArray, List.set_cons_zero, List.set_cons_succ]
              refine wpAnyH_take (i := 1) (v := ?vc_1) rfl (by kernel_rfl) (by kernel_rfl) (by kernel_rfl) (fun _ _ _ h => h) (Or.inl ⟨by rfl, ?hyc_1⟩) (by assumption) ?hrc_1
              case hyc_1 => (intro w hSw; (try dsimp only at hSw); go_simp; try with_reducible rfl)
              try simp only [Act.put, List.getElem_toArray, List.getElem_cons_succ, List.getElem_cons_zero, List.setIfInBounds_toArray, List.set_cons_zero, List.set_cons_succ]
              refine wpAnyH_take (i := 2) (v := ?vc_2) rfl (by kernel_rfl) (by kernel_rfl) (by kernel_rfl) (fun _ _ _ h => h) (Or.inl ⟨by rfl, ?hyc_2⟩) (by assumption) ?hrc_2
              case hyc_2 => (intro w hSw; (try dsimp only at hSw); go_simp; try with_reducible rfl)
              try simp only [Act.put, List.getElem_toArray, List.getElem_cons_succ, List.getElem_cons_zero, List.setIfInBounds_toArray, List.set_cons_zero, List.set_cons_succ]
              refine wpAnyH_take (i := 3) (v := ?vc_3) rfl (by kernel_rfl) (by kernel_rfl) (by kernel_rfl) (fun _ _ _ h => h) (Or.inl ⟨by rfl, ?hyc_3⟩) (by assumption) ?hrc_3
              case hyc_3 => (intro w hSw; (try dsimp only at hSw); go_simp; try with_reducible rfl)
              try simp only [Act.put, List.getElem_toArray, List.getElem_cons_succ, List.getElem_cons_zero, List.setIfInBounds_toArray, List.set_cons_zero, List.set_cons_succ]
              refine wpAnyH_take (i := 4) (v := ?vc_4) rfl (by kernel_rfl) (by kernel_rfl) (by kernel_rfl) (fun _ _ _ h => h) (Or.inl ⟨by rfl, ?hyc_4⟩) (by assumption) ?hrc_4
              case hyc_4 => (intro w hSw; (try dsimp only at hSw); go_simp; try with_reducible rfl)
              try simp only [Act.put, List.getElem_toArray, List.getElem_cons_succ, List.getElem_cons_zero, List.setIfInBounds_toArray, List.set_cons_zero, List.set_cons_succ]
              refine wpAnyH_take (i := 5) (v := ?vc_5) rfl (by kernel_rfl) (by kernel_rfl) (by kernel_rfl) (fun _ _ _ h => h) (Or.inl ⟨by rfl, ?hyc_5⟩) (by assumption) ?hrc_5
              case hyc_5 => (intro w hSw; (try dsimp only at hSw); go_simp; try with_reducible rfl)
              try simp only [Act.put, List.getElem_toArray, List.getElem_cons_succ, List.getElem_cons_zero, List.setIfInBounds_toArray, List.set_cons_zero, List.set_cons_succ]
              refine wpAnyH_take (i := 6) (v := ?vc_6) rfl (by kernel_rfl) (by kernel_rfl) (by kernel_rfl) (fun _ _ _ h => h) (Or.inl ⟨by rfl, ?hyc_6⟩) (by assumption) ?hrc_6
              case hyc_6 => (intro w hSw; (try dsimp only at hSw); go_simp; try with_reducible rfl)
              try simp only [Act.put, List.getElem_toArray, List.getElem_cons_succ, List.getElem_cons_zero, List.setIfInBounds_toArray, List.set_cons_zero, List.set_cons_succ]
              refine wpAnyH_take (i := 7) (v := ?vc_7) rfl (by kernel_rfl) (by kernel_rfl) (by kernel_rfl) (fun _ _ _ h => h) (Or.inl ⟨by rfl, ?hyc_7⟩) (by assumption) ?hrc_7
              case hyc_7 => (intro w hSw; (try dsimp only at hSw); go_simp; try with_reducible rfl)
              try simp only [Act.put, List.getElem_toArray, List.getElem_cons_succ, List.getElem_cons_zero, List.setIfInBounds_toArray, List.set_cons_zero, List.set_cons_succ]
              refine wpAnyH_take (i := 8) (v := ?vc_8) rfl (by kernel_rfl) (by kernel_rfl) (by kernel_rfl) (fun _ _ _ h => h) (Or.inl ⟨by rfl, ?hyc_8⟩) (by assumption) ?hrc_8
              case hyc_8 => (intro w hSw; (try dsimp only at hSw); go_simp; try with_reducible rfl)
              try simp only [Act.put, List.getElem_toArray, List.getElem_cons_succ, List.getElem_cons_zero, List.setIfInBounds_toArray, List.set_cons_zero, List.set_cons_succ]
              refine wpAnyH_take (i := 9) (v := ?vc_9) rfl (by kernel_rfl) (by kernel_rfl) (by kernel_rfl) (fun _ _ _ h => h) (Or.inl ⟨by rfl, ?hyc_9⟩) (by assumption) ?hrc_9
              case hyc_9 => (intro w hSw; (try dsimp only at hSw); go_simp; try with_reducible rfl)
              try simp only [Act.put, List.getElem_toArray, List.getElem_cons_succ, List.getElem_cons_zero, List.setIfInBounds_toArray, List.set_cons_zero, List.set_cons_succ]
              refine wpAnyH_take (i := 10) (v := ?vc_10) rfl (by kernel_rfl) (by kernel_rfl) (by kernel_rfl) (fun _ _ _ h => h) (Or.inl ⟨by rfl, ?hyc_10⟩) (by assumption) ?hrc_10
              case hyc_10 => (intro w hSw; (try dsimp only at hSw); go_simp; try with_reducible rfl)
              try simp only [Act.put, List.getElem_toArray, List.getElem_cons_succ, List.getElem_cons_zero, List.setIfInBounds_toArray, List.set_cons_zero, List.set_cons_succ]
              refine wpAnyH_take (i := 11) (v := ?vc_11) rfl (by kernel_rfl) (by kernel_rfl) (by kernel_rfl) (fun _ _ _ h => h) (Or.inl ⟨by rfl, ?hyc_11⟩) (by assumption) ?hrc_11
              case hyc_11 => (intro w hSw; (try dsimp only at hSw); go_simp; try with_reducible rfl)
              try simp only [Act.put, List.getElem_toArray, List.getElem_cons_succ, List.getElem_cons_zero, List.setIfInBounds_toArray, List.set_cons_zero, List.set_cons_succ]
              refine wpAnyH_take (i := 12) (v := ?vc_12) rfl (by kernel_rfl) (by kernel_rfl) (by kernel_rfl) (fun _ _ _ h => h) (Or.inl ⟨by rfl, ?hyc_12⟩) (by assumption) ?hrc_12
              case hyc_12 => (intro w hSw; (try dsimp only at hSw); go_simp; try with_reducible rfl)
              try simp only [Act.put, List.getElem_toArray, List.getElem_cons_succ, List.getElem_cons_zero, List.setIfInBounds_toArray, List.set_cons_zero, List.set_cons_succ]
              refine wpAnyH_take (i := 13) (v := ?vc_13) rfl (by kernel_rfl) (by kernel_rfl) (by kernel_rfl) (fun _ _ _ h => h) (Or.inl ⟨by rfl, ?hyc_13⟩) (by assumption) ?hrc_13
              case hyc_13 => (intro w hSw; (try dsimp only at hSw); go_simp; try with_reducible rfl)
              try simp only [Act.put, List.getElem_toArray, List.getElem_cons_succ, List.getElem_cons_zero, List.setIfInBounds_toArray, List.set_cons_zero, List.set_cons_succ]
              refine wpAnyH_take (i := 15) (v := ?vc_15) rfl (by kernel_rfl) (by kernel_rfl) (by kernel_rfl) (fun _ _ _ h => h) (Or.inl ⟨by rfl, ?hyc_15⟩) (by assumption) ?hrc_15
              case hyc_15 => (intro w hSw; (try dsimp only at hSw); go_simp; try with_reducible rfl)
              try simp only [Act.put, List.getElem_toArray, List.getElem_cons_succ, List.getElem_cons_zero, List.setIfInBounds_toArray, List.set_cons_zero, List.set_cons_succ]
              refine wpAnyH_ready (rs := [14]) (by kernel_rfl) (by simp) ?_
              refine AllReadyH.cons rfl (fun K hK => ?_) AllReadyH.nil
              go_simp
              refine (HR.out w6 _ HR6.out ((Below.refl _ _).drew)).mono ?_
              rintro e w7 ⟨rfl, hb7⟩
              have HB7 : Hid (Below w5.heap.size w5 w7) := bl.hid (HB6.out.trans (hb7.mono HB6.out.size))
              have y0 := (hb7.cell (p := ⟨g, k, none⟩) hg6).trans z0
              have y2 := (hb7.cell (p := ⟨b, off + k * 7 + 2, none⟩) hb66).trans z2
              have y3 := (hb7.cell (p := ⟨b, off + k * 7 + 3, none⟩) hb66).trans z3
              have y4 := (hb7.cell (p := ⟨b, off + k * 7 + 4, none⟩) hb66).trans z4
              have y5 := (hb7.cell (p := ⟨b, off + k * 7 + 5, none⟩) hb66).trans z5
              have y6 := (hb7.cell (p := ⟨b, off + k * 7 + 6, none⟩) hb66).trans z6
              clear hb7
              go_wp2_with fail
              refine hK.out _ _ ?hS1c (fun hHeld => ?hrest1c)
              case hS1c => exact ⟨y0, y2, y3, y4, y5, y6⟩
              case hrest1c =>
                clear hK K
                try simp only [Act.put, List.getElem_toArray, List.getElem_cons_succ, List.getElem_cons_zero, List.setIfInBounds_toArray, List.set_cons_zero, List.set_cons_succ]
                refine wpAnyH_take (i := 16) (v := ?vc_16) rfl (by kernel_rfl) (by kernel_rfl) (by kernel_rfl) (fun _ _ _ h => h) (Or.inl ⟨by rfl, ?hyc_16⟩) (by assumption) ?hrc_16
                case hyc_16 => (intro w hSw; (try dsimp only at hSw); go_simp; try with_reducible rfl)
                try simp only [Act.put, List.getElem_toArray, List.getElem_cons_succ, List.getElem_cons_zero, List.setIfInBounds_toArray, List.set_cons_zero, List.set_cons_succ]
                refine wpAnyH_take (i := 17) (v := ?vc_17) rfl (by kernel_rfl) (by kernel_rfl) (by kernel_rfl) (fun _ _ _ h => h) (Or.inl ⟨by rfl, ?hyc_17⟩) (by assumption) ?hrc_17
                case hyc_17 => (intro w hSw; (try dsimp only at hSw); go_simp; try with_reducible rfl)
                try simp only [Act.put, List.getElem_toArray, List.getElem_cons_succ, List.getElem_cons_zero, List.setIfInBounds_toArray, List.set_cons_zero, List.set_cons_succ]
                refine wpAnyH_take (i := 18) (v := ?vc_18) rfl (by kernel_rfl) (by kernel_rfl) (by kernel_rfl) (fun _ _ _ h => h) (Or.inl ⟨by rfl, ?hyc_18⟩) (by assumption) ?hrc_18
                case hyc_18 => (intro w hSw; (try dsimp only at hSw); go_simp; try with_reducible rfl)
                try simp only [Act.put, List.getElem_toArray, List.getElem_cons_succ, List.getElem_cons_zero, List.setIfInBounds_toArray, List.set_cons_zero, List.set_cons_succ]
                refine wpAnyH_take (i := 19) (v := ?vc_19) rfl (by kernel_rfl) (by kernel_rfl) (by kernel_rfl) (fun _ _ _ h => h) (Or.inl ⟨by rfl, ?hyc_19⟩) (by assumption) ?hrc_19
                case hyc_19 => (intro w hSw; (try dsimp only at hSw); go_simp; try with_reducible rfl)
                try simp only [Act.put, List.getElem_toArray, List.getElem_cons_succ, List.getElem_cons_zero, List.setIfInBounds_toArray, List.set_cons_zero, List.set_cons_succ]
                refine wpAnyH_take (i := 20) (v := ?vc_20) rfl (by kernel_rfl) (by kernel_rfl) (by kernel_rfl) (fun _ _ _ h => h) (Or.inl ⟨by rfl, ?hyc_20⟩) (by assumption) ?hrc_20
                case hyc_20 => (intro w hSw; (try dsimp only at hSw); go_simp; try with_reducible rfl)
                try simp only [Act.put, List.getElem_toArray, List.getElem_cons_succ, List.getElem_cons_zero, List.setIfInBounds_toArray, List.set_cons_zero, List.set_cons_succ]
                refine wpAnyH_take (i := 21) (v := ?vc_21) rfl (by kernel_rfl) (by kernel_rfl) (by kernel_rfl) (fun _ _ _ h => h) (Or.inl ⟨by rfl, ?hyc_21⟩) (by assumption) ?hrc_21
                case hyc_21 => (intro w hSw; (try dsimp only at hSw); go_simp; try with_reducible rfl)
                try simp only [Act.put, List.getElem_toArray, List.getElem_cons_succ, List.getElem_cons_zero, List.setIfInBounds_toArray, List.set_cons_zero, List.set_cons_succ]
                refine wpAnyH_take (i := 22) (v := undef) rfl (by kernel_rfl) (by kernel_rfl) (by kernel_rfl) (fun _ _ _ h => h) (Or.inr ⟨by rfl, rfl⟩) (by assumption) ?_
                try simp only [Act.put, List.getElem_toArray, List.getElem_cons_succ, List.getElem_cons_zero, List.setIfInBounds_toArray, List.set_cons_zero, List.set_cons_succ]
                refine wpAnyH_take (i := 23) (v := undef) rfl (by kernel_rfl) (by kernel_rfl) (by kernel_rfl) (fun _ _ _ h => h) (Or.inr ⟨by rfl, rfl⟩) (by assumption) ?_
                try simp only [Act.put, List.getElem_toArray, List.getElem_cons_succ, List.getElem_cons_zero, List.setIfInBounds_toArray, List.set_cons_zero, List.set_cons_succ]
                refine wpAnyH_take (i := 24) (v := ?vc_24) rfl (by kernel_rfl) (by kernel_rfl) (by kernel_rfl) (fun _ _ _ h => h) (Or.inl ⟨by rfl, ?hyc_24⟩) (by assumption) ?hrc_24
                case hyc_24 => (intro w hSw; (try dsimp only at hSw); go_simp; try with_reducible rfl)
                try simp only [Act.put, List.getElem_toArray, List.getElem_cons_succ, List.getElem_cons_zero, List.setIfInBounds_toArray, List.set_cons_zero, List.set_cons_succ]
                refine wpAnyH_take (i := 25) (v := ?vc_25) rfl (by kernel_rfl) (by kernel_rfl) (by kernel_rfl) (fun _ _ _ h => h) (Or.inl ⟨by rfl, ?hyc_25⟩) (by assumption) ?hrc_25
                case hyc_25 => (intro w hSw; (try dsimp only at hSw); go_simp; try with_reducible rfl)
                try simp only [Act.put, List.getElem_toArray, List.getElem_cons_succ, List.getElem_cons_zero, List.setIfInBounds_toArray, List.set_cons_zero, List.set_cons_succ]
                refine wpAnyH_take (i := 26) (v := ?vc_26) rfl (by kernel_rfl) (by kernel_rfl) (by kernel_rfl) (fun _ _ _ h => h) (Or.inl ⟨by rfl, ?hyc_26⟩) (by assumption) ?hrc_26
                case hyc_26 => (intro w hSw; (try dsimp only at hSw); go_simp; try with_reducible rfl)
                try simp only [Act.put, List.getElem_toArray, List.getElem_cons_succ, List.getElem_cons_zero, List.setIfInBounds_toArray, List.set_cons_zero, List.set_cons_succ]
                refine wpAnyH_take (i := 27) (v := ?vc_27) rfl (by kernel_rfl) (by kernel_rfl) (by kernel_rfl) (fun _ _ _ h => h) (Or.inl ⟨by rfl, ?hyc_27⟩) (by assumption) ?hrc_27
                case hyc_27 => (intro w hSw; (try dsimp only at hSw); go_simp; try with_reducible rfl)
                try simp only [Act.put, List.getElem_toArray, List.getElem_cons_succ, List.getElem_cons_zero, List.setIfInBounds_toArray, List.set_cons_zero, List.set_cons_succ]
                refine wpAnyH_take (i := 28) (v := ?vc_28) rfl (by kernel_rfl) (by kernel_rfl) (by kernel_rfl) (fun _ _ _ h => h) (Or.inl ⟨by rfl, ?hyc_28⟩) (by assumption) ?hrc_28
                case hyc_28 => (intro w hSw; (try dsimp only at hSw); go_simp; try with_reducible rfl)
                try simp only [Act.put, List.getElem_toArray, List.getElem_cons_succ, List.getElem_cons_zero, List.setIfInBounds_toArray, List.set_cons_zero, List.set_cons_succ]
                refine wpAnyH_take (i := 29) (v := ?vc_29) rfl (by kernel_rfl) (by kernel_rfl) (by kernel_rfl) (fun _ _ _ h => h) (Or.inl ⟨by rfl, ?hyc_29⟩) (by assumption) ?hrc_29
                case hyc_29 => (intro w hSw; (try dsimp only at hSw); go_simp; try with_reducible rfl)
                try simp only [Act.put, List.getElem_toArray, List.getElem_cons_succ, List.getElem_cons_zero, List.setIfInBounds_toArray, List.set_cons_zero, List.set_cons_succ]
                refine wpAnyH_take (i := 30) (v := ?vc_30) rfl (by kernel_rfl) (by kernel_rfl) (by kernel_rfl) (fun _ _ _ h => h) (Or.inl ⟨by rfl, ?hyc_30⟩) (by assumption) ?hrc_30
                case hyc_30 => (intro w hSw; (try dsimp only at hSw); go_simp; try with_reducible rfl)
                try simp only [Act.put, List.getElem_toArray, List.getElem_cons_succ, List.getElem_cons_zero, List.setIfInBounds_toArray, List.set_cons_zero, List.set_cons_succ]
                refine wpAnyH_take (i := 31) (v := ?vc_31) rfl (by kernel_rfl) (by kernel_rfl) (by kernel_rfl) (fun _ _ _ h => h) (Or.inl ⟨by rfl, ?hyc_31⟩) (by assumption) ?hrc_31
                case hyc_31 => (intro w hSw; (try dsimp only at hSw); go_simp; try with_reducible rfl)
                try simp only [Act.put, List.getElem_toArray, List.getElem_cons_succ, List.getElem_cons_zero, List.setIfInBounds_toArray, List.set_cons_zero, List.set_cons_succ]
                refine wpAnyH_take (i := 32) (v := ?vc_32) rfl (by kernel_rfl) (by kernel_rfl) (by kernel_rfl) (fun _ _ _ h => h) (Or.inl ⟨by rfl, ?hyc_32⟩) (by assumption) ?hrc_32
                case hyc_32 => (intro w hSw; (try dsimp only at hSw); go_simp; try with_reducible rfl)
                try simp only [Act.put, List.getElem_toArray, List.getElem_cons_succ, List.getElem_cons_zero, List.setIfInBounds_toArray, List.set_cons_zero, List.set_cons_succ]
                refine wpAnyH_done (by kernel_rfl) ?_ _
                go_wp2
                exact ⟨⟨k + 1, by omega, by go_num, HB7.out⟩, by simp [intOf]; omega⟩
          · have hd2 : -4096 ≤ 4 * ((Q : Int) - P) := by omega
            have hd3 : decide (4 * ((Q : Int) - P) ≤ 4094) = false := decide_eq_false (by omega)
            go_wp2
            go_quiet (fail)
            go_wp2_with fail
            refine (HAt.out _ (HB.out.drewN' nq)).mono ?_
            rintro e w6 ⟨rfl, rfl⟩
            go_wp2_with fail
            refine (HFo.out _).mono ?_
            rintro e w6 ⟨rfl, hb6⟩
            have hb6' : Below wr.heap.size wr w6 := ((Below.refl _ wr).drewN' nq).trans hb6
            have z0 : w6.cell? ⟨g, k, none⟩ = some (.int .i64 P) := (hb6'.cell (p := ⟨g, k, none⟩) hgr).trans q0
            have z2 : w6.cell? ⟨b, off + k * 7 + 2, none⟩ = some (.int .i64 op) := (hb6'.cell (p := ⟨b, off + k * 7 + 2, none⟩) hbl).trans l2
            have z3 : w6.cell? ⟨b, off + k * 7 + 3, none⟩ = some (.int .i64 rd) := (hb6'.cell (p := ⟨b, off + k * 7 + 3, none⟩) hbl).trans l3
            have z4 : w6.cell? ⟨b, off + k * 7 + 4, none⟩ = some (.int .i64 rs1) := (hb6'.cell (p := ⟨b, off + k * 7 + 4, none⟩) hbl).trans l4
            have z5 : w6.cell? ⟨b, off + k * 7 + 5, none⟩ = some (.int .i64 rs2) := (hb6'.cell (p := ⟨b, off + k * 7 + 5, none⟩) hbl).trans l5
            have z6 : w6.cell? ⟨b, off + k * 7 + 6, none⟩ = some (.int .i64 0) := (hb6'.cell (p := ⟨b, off + k * 7 + 6, none⟩) hbl).trans l6
            have HB6 : Hid (Below w5.heap.size w5 w6) := bl.hid (HB.out.trans (hb6'.mono hs))
            have HR6 := bl.hid hb6'
            have hg6 : g < w6.heap.size := Nat.lt_of_lt_of_le hgr hb6'.size
            have hb66 : b < w6.heap.size := Nat.lt_of_lt_of_le hbl hb6'.size
            clear hb6 hb6' l0 l1 l2 l3 l4 l5 l6 q0 q1
            go_upto_region 27 with (fail)
            have i0 : (0 : Int) ≤ (k : Int) := by omega
            have i1 : (k : Int) < (N : Int) := by omega
            have i2 : (k : Int) < (N : Int) + 1 := by omega
            have i3 : (k : Int) < ((N + 1 : Nat) : Int) := by omega
            have i4 : decide ((Q : Int) < 0) = false := decide_eq_false (by omega)
            refine wp_region_held_drew (S := (fun w' => w'.cell? ⟨g, k, none⟩ = some (.int .i64 P) ∧ w'.cell? ⟨b, off + k * 7 + 2, none⟩ = some (.int .i64 op) ∧ w'.cell? ⟨b, off + k * 7 + 3, none⟩ = some (.int .i64 rd) ∧ w'.cell? ⟨b, off + k * 7 + 4, none⟩ = some (.int .i64 rs1) ∧ w'.cell? ⟨b, off + k * 7 + 5, none⟩ = some (.int .i64 rs2) ∧ w'.cell? ⟨b, off + k * 7 + 6, none⟩ = some (.int .i64 0))) (by kernel_rfl) ?hS0d (fun hHeld => ?hrestd)
            case hS0d => exact ⟨z0, z2, z3, z4, z5, z6⟩
            case hrestd =>
              refine wpAnyH_take (i := 0) (v := ?vd_0) rfl (by kernel_rfl) (by kernel_rfl) (by kernel_rfl) (fun _ _ _ h => h) (Or.inl ⟨by rfl, ?hyd_0⟩) (by assumption) ?hrd_0
              case hyd_0 => (intro w hSw; (try dsimp only at hSw); go_simp; try with_reducible rfl)
              try simp only [Act.put, List.getElem_toArray, List.getElem_cons_succ, List.getElem_cons_zero, List.setIfInBounds_toArray, List.set_cons_zero, List.set_cons_succ]
              refine wpAnyH_take (i := 1) (v := ?vd_1) rfl (by kernel_rfl) (by kernel_rfl) (by kernel_rfl) (fun _ _ _ h => h) (Or.inl ⟨by rfl, ?hyd_1⟩) (by assumption) ?hrd_1
              case hyd_1 => (intro w hSw; (try dsimp only at hSw); go_simp; try with_reducible rfl)
              try simp only [Act.put, List.getElem_toArray, List.getElem_cons_succ, List.getElem_cons_zero, List.setIfInBounds_toArray, List.set_cons_zero, List.set_cons_succ]
              refine wpAnyH_take (i := 2) (v := ?vd_2) rfl (by kernel_rfl) (by kernel_rfl) (by kernel_rfl) (fun _ _ _ h => h) (Or.inl ⟨by rfl, ?hyd_2⟩) (by assumption) ?hrd_2
              case hyd_2 => (intro w hSw; (try dsimp only at hSw); go_simp; try with_reducible rfl)
              try simp only [Act.put, List.getElem_toArray, List.getElem_cons_succ, List.getElem_cons_zero, List.setIfInBounds_toArray, List.set_cons_zero, List.set_cons_succ]
              refine wpAnyH_take (i := 3) (v := ?vd_3) rfl (by kernel_rfl) (by kernel_rfl) (by kernel_rfl) (fun _ _ _ h => h) (Or.inl ⟨by rfl, ?hyd_3⟩) (by assumption) ?hrd_3
              case hyd_3 => (intro w hSw; (try dsimp only at hSw); go_simp; try with_reducible rfl)
              try simp only [Act.put, List.getElem_toArray, List.getElem_cons_succ, List.getElem_cons_zero, List.setIfInBounds_toArray, List.set_cons_zero, List.set_cons_succ]
              refine wpAnyH_take (i := 4) (v := ?vd_4) rfl (by kernel_rfl) (by kernel_rfl) (by kernel_rfl) (fun _ _ _ h => h) (Or.inl ⟨by rfl, ?hyd_4⟩) (by assumption) ?hrd_4
              case hyd_4 => (intro w hSw; (try dsimp only at hSw); go_simp; try with_reducible rfl)
              try simp only [Act.put, List.getElem_toArray, List.getElem_cons_succ, List.getElem_cons_zero, List.setIfInBounds_toArray, List.set_cons_zero, List.set_cons_succ]
              refine wpAnyH_take (i := 5) (v := ?vd_5) rfl (by kernel_rfl) (by kernel_rfl) (by kernel_rfl) (fun _ _ _ h => h) (Or.inl ⟨by rfl, ?hyd_5⟩) (by assumption) ?hrd_5
              case hyd_5 => (intro w hSw; (try dsimp only at hSw); go_simp; try with_reducible rfl)
              try simp only [Act.put, List.getElem_toArray, List.getElem_cons_succ, List.getElem_cons_zero, List.setIfInBounds_toArray, List.set_cons_zero, List.set_cons_succ]
              refine wpAnyH_take (i := 6) (v := ?vd_6) rfl (by kernel_rfl) (by kernel_rfl) (by kernel_rfl) (fun _ _ _ h => h) (Or.inl ⟨by rfl, ?hyd_6⟩) (by assumption) ?hrd_6
              case hyd_6 => (intro w hSw; (try dsimp only at hSw); go_simp; try with_reducible rfl)
              try simp only [Act.put, List.getElem_toArray, List.getElem_cons_succ, List.getElem_cons_zero, List.setIfInBounds_toArray, List.set_cons_zero, List.set_cons_succ]
              refine wpAnyH_take (i := 7) (v := ?vd_7) rfl (by kernel_rfl) (by kernel_rfl) (by kernel_rfl) (fun _ _ _ h => h) (Or.inl ⟨by rfl, ?hyd_7⟩) (by assumption) ?hrd_7
              case hyd_7 => (intro w hSw; (try dsimp only at hSw); go_simp; try with_reducible rfl)
              try simp only [Act.put, List.getElem_toArray, List.getElem_cons_succ, List.getElem_cons_zero, List.setIfInBounds_toArray, List.set_cons_zero, List.set_cons_succ]
              refine wpAnyH_take (i := 8) (v := ?vd_8) rfl (by kernel_rfl) (by kernel_rfl) (by kernel_rfl) (fun _ _ _ h => h) (Or.inl ⟨by rfl, ?hyd_8⟩) (by assumption) ?hrd_8
              case hyd_8 => (intro w hSw; (try dsimp only at hSw); go_simp; try with_reducible rfl)
              try simp only [Act.put, List.getElem_toArray, List.getElem_cons_succ, List.getElem_cons_zero, List.setIfInBounds_toArray, List.set_cons_zero, List.set_cons_succ]
              refine wpAnyH_take (i := 9) (v := ?vd_9) rfl (by kernel_rfl) (by kernel_rfl) (by kernel_rfl) (fun _ _ _ h => h) (Or.inl ⟨by rfl, ?hyd_9⟩) (by assumption) ?hrd_9
              case hyd_9 => (intro w hSw; (try dsimp only at hSw); go_simp; try with_reducible rfl)
              try simp only [Act.put, List.getElem_toArray, List.getElem_cons_succ, List.getElem_cons_zero, List.setIfInBounds_toArray, List.set_cons_zero, List.set_cons_succ]
              refine wpAnyH_take (i := 10) (v := ?vd_10) rfl (by kernel_rfl) (by kernel_rfl) (by kernel_rfl) (fun _ _ _ h => h) (Or.inl ⟨by rfl, ?hyd_10⟩) (by assumption) ?hrd_10
              case hyd_10 => (intro w hSw; (try dsimp only at hSw); go_simp; try with_reducible rfl)
              try simp only [Act.put, List.getElem_toArray, List.getElem_cons_succ, List.getElem_cons_zero, List.setIfInBounds_toArray, List.set_cons_zero, List.set_cons_succ]
              refine wpAnyH_take (i := 11) (v := ?vd_11) rfl (by kernel_rfl) (by kernel_rfl) (by kernel_rfl) (fun _ _ _ h => h) (Or.inl ⟨by rfl, ?hyd_11⟩) (by assumption) ?hrd_11
              case hyd_11 => (intro w hSw; (try dsimp only at hSw); go_simp; try with_reducible rfl)
              try simp only [Act.put, List.getElem_toArray, List.getElem_cons_succ, List.getElem_cons_zero, List.setIfInBounds_toArray, List.set_cons_zero, List.set_cons_succ]
              refine wpAnyH_take (i := 12) (v := ?vd_12) rfl (by kernel_rfl) (by kernel_rfl) (by kernel_rfl) (fun _ _ _ h => h) (Or.inl ⟨by rfl, ?hyd_12⟩) (by assumption) ?hrd_12
              case hyd_12 => (intro w hSw; (try dsimp only at hSw); go_simp; try with_reducible rfl)
              try simp only [Act.put, List.getElem_toArray, List.getElem_cons_succ, List.getElem_cons_zero, List.setIfInBounds_toArray, List.set_cons_zero, List.set_cons_succ]
              refine wpAnyH_take (i := 13) (v := ?vd_13) rfl (by kernel_rfl) (by kernel_rfl) (by kernel_rfl) (fun _ _ _ h => h) (Or.inl ⟨by rfl, ?hyd_13⟩) (by assumption) ?hrd_13
              case hyd_13 => (intro w hSw; (try dsimp only at hSw); go_simp; try with_reducible rfl)
              try simp only [Act.put, List.getElem_toArray, List.getElem_cons_succ, List.getElem_cons_zero, List.setIfInBounds_toArray, List.set_cons_zero, List.set_cons_succ]
              refine wpAnyH_take (i := 15) (v := ?vd_15) rfl (by kernel_rfl) (by kernel_rfl) (by kernel_rfl) (fun _ _ _ h => h) (Or.inl ⟨by rfl, ?hyd_15⟩) (by assumption) ?hrd_15
              case hyd_15 => (intro w hSw; (try dsimp only at hSw); go_simp; try with_reducible rfl)
              try simp only [Act.put, List.getElem_toArray, List.getElem_cons_succ, List.getElem_cons_zero, List.setIfInBounds_toArray, List.set_cons_zero, List.set_cons_succ]
              refine wpAnyH_ready (rs := [14]) (by kernel_rfl) (by simp) ?_
              refine AllReadyH.cons rfl (fun K hK => ?_) AllReadyH.nil
              go_simp
              refine (HR.out w6 _ HR6.out ((Below.refl _ _).drew)).mono ?_
              rintro e w7 ⟨rfl, hb7⟩
              have HB7 : Hid (Below w5.heap.size w5 w7) := bl.hid (HB6.out.trans (hb7.mono HB6.out.size))
              have y0 := (hb7.cell (p := ⟨g, k, none⟩) hg6).trans z0
              have y2 := (hb7.cell (p := ⟨b, off + k * 7 + 2, none⟩) hb66).trans z2
              have y3 := (hb7.cell (p := ⟨b, off + k * 7 + 3, none⟩) hb66).trans z3
              have y4 := (hb7.cell (p := ⟨b, off + k * 7 + 4, none⟩) hb66).trans z4
              have y5 := (hb7.cell (p := ⟨b, off + k * 7 + 5, none⟩) hb66).trans z5
              have y6 := (hb7.cell (p := ⟨b, off + k * 7 + 6, none⟩) hb66).trans z6
              clear hb7
              go_wp2_with fail
              refine hK.out _ _ ?hS1d (fun hHeld => ?hrest1d)
              case hS1d => exact ⟨y0, y2, y3, y4, y5, y6⟩
              case hrest1d =>
                clear hK K
                try simp only [Act.put, List.getElem_toArray, List.getElem_cons_succ, List.getElem_cons_zero, List.setIfInBounds_toArray, List.set_cons_zero, List.set_cons_succ]
                refine wpAnyH_take (i := 16) (v := ?vd_16) rfl (by kernel_rfl) (by kernel_rfl) (by kernel_rfl) (fun _ _ _ h => h) (Or.inl ⟨by rfl, ?hyd_16⟩) (by assumption) ?hrd_16
                case hyd_16 => (intro w hSw; (try dsimp only at hSw); go_simp; try with_reducible rfl)
                try simp only [Act.put, List.getElem_toArray, List.getElem_cons_succ, List.getElem_cons_zero, List.setIfInBounds_toArray, List.set_cons_zero, List.set_cons_succ]
                refine wpAnyH_take (i := 17) (v := ?vd_17) rfl (by kernel_rfl) (by kernel_rfl) (by kernel_rfl) (fun _ _ _ h => h) (Or.inl ⟨by rfl, ?hyd_17⟩) (by assumption) ?hrd_17
                case hyd_17 => (intro w hSw; (try dsimp only at hSw); go_simp; try with_reducible rfl)
                try simp only [Act.put, List.getElem_toArray, List.getElem_cons_succ, List.getElem_cons_zero, List.setIfInBounds_toArray, List.set_cons_zero, List.set_cons_succ]
                refine wpAnyH_take (i := 18) (v := ?vd_18) rfl (by kernel_rfl) (by kernel_rfl) (by kernel_rfl) (fun _ _ _ h => h) (Or.inl ⟨by rfl, ?hyd_18⟩) (by assumption) ?hrd_18
                case hyd_18 => (intro w hSw; (try dsimp only at hSw); go_simp; try with_reducible rfl)
                try simp only [Act.put, List.getElem_toArray, List.getElem_cons_succ, List.getElem_cons_zero, List.setIfInBounds_toArray, List.set_cons_zero, List.set_cons_succ]
                refine wpAnyH_take (i := 19) (v := ?vd_19) rfl (by kernel_rfl) (by kernel_rfl) (by kernel_rfl) (fun _ _ _ h => h) (Or.inl ⟨by rfl, ?hyd_19⟩) (by assumption) ?hrd_19
                case hyd_19 => (intro w hSw; (try dsimp only at hSw); go_simp; try with_reducible rfl)
                try simp only [Act.put, List.getElem_toArray, List.getElem_cons_succ, List.getElem_cons_zero, List.setIfInBounds_toArray, List.set_cons_zero, List.set_cons_succ]
                refine wpAnyH_take (i := 20) (v := ?vd_20) rfl (by kernel_rfl) (by kernel_rfl) (by kernel_rfl) (fun _ _ _ h => h) (Or.inl ⟨by rfl, ?hyd_20⟩) (by assumption) ?hrd_20
                case hyd_20 => (intro w hSw; (try dsimp only at hSw); go_simp; try with_reducible rfl)
                try simp only [Act.put, List.getElem_toArray, List.getElem_cons_succ, List.getElem_cons_zero, List.setIfInBounds_toArray, List.set_cons_zero, List.set_cons_succ]
                refine wpAnyH_take (i := 21) (v := ?vd_21) rfl (by kernel_rfl) (by kernel_rfl) (by kernel_rfl) (fun _ _ _ h => h) (Or.inl ⟨by rfl, ?hyd_21⟩) (by assumption) ?hrd_21
                case hyd_21 => (intro w hSw; (try dsimp only at hSw); go_simp; try with_reducible rfl)
                try simp only [Act.put, List.getElem_toArray, List.getElem_cons_succ, List.getElem_cons_zero, List.setIfInBounds_toArray, List.set_cons_zero, List.set_cons_succ]
                refine wpAnyH_take (i := 22) (v := undef) rfl (by kernel_rfl) (by kernel_rfl) (by kernel_rfl) (fun _ _ _ h => h) (Or.inr ⟨by rfl, rfl⟩) (by assumption) ?_
                try simp only [Act.put, List.getElem_toArray, List.getElem_cons_succ, List.getElem_cons_zero, List.setIfInBounds_toArray, List.set_cons_zero, List.set_cons_succ]
                refine wpAnyH_take (i := 23) (v := undef) rfl (by kernel_rfl) (by kernel_rfl) (by kernel_rfl) (fun _ _ _ h => h) (Or.inr ⟨by rfl, rfl⟩) (by assumption) ?_
                try simp only [Act.put, List.getElem_toArray, List.getElem_cons_succ, List.getElem_cons_zero, List.setIfInBounds_toArray, List.set_cons_zero, List.set_cons_succ]
                refine wpAnyH_take (i := 24) (v := ?vd_24) rfl (by kernel_rfl) (by kernel_rfl) (by kernel_rfl) (fun _ _ _ h => h) (Or.inl ⟨by rfl, ?hyd_24⟩) (by assumption) ?hrd_24
                case hyd_24 => (intro w hSw; (try dsimp only at hSw); go_simp; try with_reducible rfl)
                try simp only [Act.put, List.getElem_toArray, List.getElem_cons_succ, List.getElem_cons_zero, List.setIfInBounds_toArray, List.set_cons_zero, List.set_cons_succ]
                refine wpAnyH_take (i := 25) (v := ?vd_25) rfl (by kernel_rfl) (by kernel_rfl) (by kernel_rfl) (fun _ _ _ h => h) (Or.inl ⟨by rfl, ?hyd_25⟩) (by assumption) ?hrd_25
                case hyd_25 => (intro w hSw; (try dsimp only at hSw); go_simp; try with_reducible rfl)
                try simp only [Act.put, List.getElem_toArray, List.getElem_cons_succ, List.getElem_cons_zero, List.setIfInBounds_toArray, List.set_cons_zero, List.set_cons_succ]
                refine wpAnyH_take (i := 26) (v := ?vd_26) rfl (by kernel_rfl) (by kernel_rfl) (by kernel_rfl) (fun _ _ _ h => h) (Or.inl ⟨by rfl, ?hyd_26⟩) (by assumption) ?hrd_26
                case hyd_26 => (intro w hSw; (try dsimp only at hSw); go_simp; try with_reducible rfl)
                try simp only [Act.put, List.getElem_toArray, List.getElem_cons_succ, List.getElem_cons_zero, List.setIfInBounds_toArray, List.set_cons_zero, List.set_cons_succ]
                refine wpAnyH_take (i := 27) (v := ?vd_27) rfl (by kernel_rfl) (by kernel_rfl) (by kernel_rfl) (fun _ _ _ h => h) (Or.inl ⟨by rfl, ?hyd_27⟩) (by assumption) ?hrd_27
                case hyd_27 => (intro w hSw; (try dsimp only at hSw); go_simp; try with_reducible rfl)
                try simp only [Act.put, List.getElem_toArray, List.getElem_cons_succ, List.getElem_cons_zero, List.setIfInBounds_toArray, List.set_cons_zero, List.set_cons_succ]
                refine wpAnyH_take (i := 28) (v := ?vd_28) rfl (by kernel_rfl) (by kernel_rfl) (by kernel_rfl) (fun _ _ _ h => h) (Or.inl ⟨by rfl, ?hyd_28⟩) (by assumption) ?hrd_28
                case hyd_28 => (intro w hSw; (try dsimp only at hSw); go_simp; try with_reducible rfl)
                try simp only [Act.put, List.getElem_toArray, List.getElem_cons_succ, List.getElem_cons_zero, List.setIfInBounds_toArray, List.set_cons_zero, List.set_cons_succ]
                refine wpAnyH_take (i := 29) (v := ?vd_29) rfl (by kernel_rfl) (by kernel_rfl) (by kernel_rfl) (fun _ _ _ h => h) (Or.inl ⟨by rfl, ?hyd_29⟩) (by assumption) ?hrd_29
                case hyd_29 => (intro w hSw; (try dsimp only at hSw); go_simp; try with_reducible rfl)
                try simp only [Act.put, List.getElem_toArray, List.getElem_cons_succ, List.getElem_cons_zero, List.setIfInBounds_toArray, List.set_cons_zero, List.set_cons_succ]
                refine wpAnyH_take (i := 30) (v := ?vd_30) rfl (by kernel_rfl) (by kernel_rfl) (by kernel_rfl) (fun _ _ _ h => h) (Or.inl ⟨by rfl, ?hyd_30⟩) (by assumption) ?hrd_30
                case hyd_30 => (intro w hSw; (try dsimp only at hSw); go_simp; try with_reducible rfl)
                try simp only [Act.put, List.getElem_toArray, List.getElem_cons_succ, List.getElem_cons_zero, List.setIfInBounds_toArray, List.set_cons_zero, List.set_cons_succ]
                refine wpAnyH_take (i := 31) (v := ?vd_31) rfl (by kernel_rfl) (by kernel_rfl) (by kernel_rfl) (fun _ _ _ h => h) (Or.inl ⟨by rfl, ?hyd_31⟩) (by assumption) ?hrd_31
                case hyd_31 => (intro w hSw; (try dsimp only at hSw); go_simp; try with_reducible rfl)
                try simp only [Act.put, List.getElem_toArray, List.getElem_cons_succ, List.getElem_cons_zero, List.setIfInBounds_toArray, List.set_cons_zero, List.set_cons_succ]
                refine wpAnyH_take (i := 32) (v := ?vd_32) rfl (by kernel_rfl) (by kernel_rfl) (by kernel_rfl) (fun _ _ _ h => h) (Or.inl ⟨by rfl, ?hyd_32⟩) (by assumption) ?hrd_32
                case hyd_32 => (intro w hSw; (try dsimp only at hSw); go_simp; try with_reducible rfl)
                try simp only [Act.put, List.getElem_toArray, List.getElem_cons_succ, List.getElem_cons_zero, List.setIfInBounds_toArray, List.set_cons_zero, List.set_cons_succ]
                refine wpAnyH_done (by kernel_rfl) ?_ _
                go_wp2
                exact ⟨⟨k + 1, by omega, by go_num, HB7.out⟩, by simp [intOf]; omega⟩
    · obtain rfl : k = N := by omega
      go_wp2
      go_ret
      exact ⟨rfl, HW5.out.trans (HB.out.mono s5)⟩
end Go.Proofs.Ytbcflhpaafpndaa
