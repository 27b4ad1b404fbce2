/- The chapter's code, told and run, in plain numbers; machine. -/
import Derived.Test.YtjjkocklpcdbkaaGreatStWords
namespace Go.Proofs.YtjjkocklpcdbkaaGreat
open Go.RowKit
set_option linter.unusedVariables false
set_option maxRecDepth 100000
namespace st
theorem told_enc (x : In) (h : InC x) : toldOf (enc x) = ⟨x, 0⟩ := by
  obtain ⟨h1, h2, h3⟩ := rv.dec_back x.op x.rd x.rs1 x.rs2 x.im h
  obtain ⟨h4, h5⟩ := toldOf_row (enc x)
  rw [show enc x = rv.encI x.op x.rd x.rs1 x.rs2 x.im from rfl] at *
  rw [h2] at h4
  rw [h3] at h5
  obtain ⟨t, ht⟩ : ∃ t, toldOf (rv.encI x.op x.rd x.rs1 x.rs2 x.im) = t := ⟨_, rfl⟩
  rw [ht] at h4 h5 ⊢
  obtain ⟨⟨a, b, c, d, f⟩, e⟩ := t
  obtain ⟨a', b', c', d', f'⟩ := x
  unfold In.cells at h4
  dsimp only at h4 h5
  simp at h4
  obtain ⟨q1, q2, q3, q4, q5⟩ := h4
  subst q1 q2 q3 q4 q5
  rw [h5]
theorem enc_bd (x : In) (h : InC x) : 0 ≤ enc x ∧ enc x < 4294967296 := (rv.dec_back x.op x.rd x.rs1 x.rs2 x.im h).1
def codeSix (by' : Int) (k : Nat) : Told := ((sixL by')[k]?.map (fun x => ⟨x, 0⟩)).getD ⟨⟨0, 0, 0, 0, 0⟩, 16⟩
def l64 : List Int := List.replicate 64 0
def run2 : Int × Int × S := runS (codeSix 2) 6 (S0 l64) 4
theorem run2_is : (run2.1, run2.2.1, pl.ldV run2.2.2.l 20 1, pl.ldE run2.2.2.l 20 1, run2.2.2.reg 3, (step (codeSix 2) 6 run2.2.2).1, (step (codeSix 2) 6 run2.2.2).2.pc) = (0, 4, 5, 0, 5, 0, 4294967304) := by kernel_rfl
def run4 : Int × Int × S := runS (codeSix 4) 6 (S0 l64) 3
def s4 : S := ((run4.2.2.set 0 7).set 32 0).go 2
theorem run4_is : (run4.1, run4.2.1, run4.2.2.reg 1, run4.2.2.reg 2, (run4.2.2.set 0 7).reg 0, (step (codeSix 4) 6 s4).1, (step (codeSix 4) 6 ((step (codeSix 4) 6 s4).2.go 4)).1) = (5, 2, 5, 80, 0, 3, 4) := by kernel_rfl
end st
/-- other code that reads alike -/
theorem IsMach.code {w : World} {P : st.Pl} {code code' : Nat → st.Told} {s : st.S} (h : IsMach w P code s) (hc : ∀ k, k < P.n → code k = code' k) : IsMach w P code' s := by
  refine ⟨h.row, h.mem, h.deeds, ?_, h.ok, fun k hk => by rw [← hc k hk]; exact h.ins k hk, h.small⟩
  rcases h.told with h0 | ⟨b, e, rest, hr⟩
  · exact .inl h0
  · refine .inr ⟨b, e, rest, ?_⟩
    rw [← st.tflat_ext _ _ _ hc]
    exact hr
/-- what Begin and machine make -/
def MachPost (n : Nat) (code : Nat → st.Told) (s : st.S) (w : World) (e : Ending) (w' : World) : Prop :=
  ∃ P : st.Pl, P.n = n ∧ e = .returned (.tuple #[.pointer (some ⟨P.p, 0, none⟩), .pointer (some ⟨P.mp, 0, none⟩)]) ∧ IsMach w' P code s ∧ Below w.heap.size w w' ∧ w.heap.size ≤ P.p ∧ w.heap.size ≤ P.g
theorem six_code (by' : Int) (hby : by' = 2 ∨ by' = 4) : ∀ k, k < 6 → st.toldOf (codeF (st.sixL by') k) = st.codeSix by' k := by
  intro k hk
  unfold codeF st.codeSix
  have hl : k < (st.sixL by').length := hk
  rw [List.getElem?_eq_getElem hl]
  exact st.told_enc _ (st.six_ok by' hby _ (List.getElem_mem hl))
theorem six_words {by' : Int} (hby : by' = 2 ∨ by' = 4) {w : World} {base : Nat} {v : Value} (h : w.ownsRow base 97 1 v 6 (st.wordsV (st.sixL by'))) : ∃ a cap, v = .slice a 6 cap ∧ WordsAt w a 6 (codeF (st.sixL by')) :=
  own_wordsAt h rfl (fun x hx => st.enc_bd x (st.six_ok by' hby x hx))
set_option maxHeartbeats 3200000 in
theorem machine_any (by' : Int) (hby : by' = 2 ∨ by' = 4) (w : World) : Calls Tryz.prog 17 #[.int .i64 by'] w (MachPost 6 (st.codeSix by') (st.S0 st.l64) w) := by
  have HN := bl.hid (new_ok 64 w (by decide) (by decide))
  go_enter Tryz.func17, Tryz.ntmps17
  go_wp2_with fail
  refine HN.out.mono ?_
  rintro e w1 ⟨mp, g, rfl, hmp, hg, hm, hb⟩
  have HB1 := bl.hid hb
  have s1 := hb.size
  have HMk := bl.hid (make_any w1 mp g (List.replicate 64 0) hm (by decide))
  clear hm hb
  go_wp2_with fail
  refine HMk.out.mono ?_
  rintro e w2 ⟨p, db, rfl, hp, hm, hb⟩
  have HB2 : Hid (Below w.heap.size w w2) := bl.hid (HB1.out.trans (hb.mono s1))
  have s2 := HB2.out.size
  have HM2 : Hid (IsMach w2 ⟨p, mp, g, db, none, 0, 0⟩ (fun _ => st.noTold) (st.S0 st.l64)) := bl.hid (hm _)
  have hp2 : w.heap.size ≤ p := Nat.le_trans s1 hp
  clear hm hb HMk HN
  go_wp2_with fail
  refine (six_any by' hby _).mono ?_
  rintro e w3 ⟨v3, rfl, ho, hb⟩
  have HB3 : Hid (Below w.heap.size w w3) := bl.hid (HB2.out.trans (hb.mono s2))
  have s3 := HB3.out.size
  have HM3 := bl.hid (HM2.out.keep hb)
  obtain ⟨a3, c3, rfl, -⟩ := six_words hby ho
  clear ho hb HB2 HB1 HM2
  go_wp2_with fail
  refine (six_any by' hby _).mono ?_
  rintro e w4 ⟨v4, rfl, ho, hb⟩
  have HB4 : Hid (Below w.heap.size w w4) := bl.hid (HB3.out.trans (hb.mono s3))
  have s4 := HB4.out.size
  have HM4 := bl.hid (HM3.out.keep hb)
  obtain ⟨a4, c4, rfl, hw⟩ := six_words hby ho
  have HC := bl.hid (code_any w4 _ _ _ a4 6 c4 _ HM4.out hw (by decide))
  clear ho hb HB3 HM3 hw s3
  go_wp2_with fail
  refine HC.out.mono ?_
  rintro e w5 ⟨B, rfl, hm, hb⟩
  have HE : Hid (MachPost 6 (st.codeSix by') (st.S0 st.l64) w (.returned (.tuple #[.pointer (some ⟨p, 0, none⟩), .pointer (some ⟨mp, 0, none⟩)])) w5) := bl.hid ⟨_, rfl, rfl, hm.code (six_code by' hby), hb.below HB4.out hp2 hp2 s4, hp2, hg⟩
  clear hm hb HC HM4 HB4
  go_wp2
  go_ret2
  exact HE.out
end Go.Proofs.YtjjkocklpcdbkaaGreat
