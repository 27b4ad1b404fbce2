/- Load: a machine gets code. -/
import Derived.Test.YtjjkocklpcdbkaaGreatStNew
import Derived.OwnWalk
namespace Go.Proofs.YtjjkocklpcdbkaaGreat
open Go.RowKit
set_option linter.unusedVariables false
set_option maxRecDepth 100000
/-- words that lie somewhere -/
def WordsAt (w : World) (a : Option Addr) (n : Nat) (f : Nat → Int) : Prop := (∀ i, i < n → 0 ≤ f i ∧ f i < 4294967296) ∧ (n = 0 ∨ ∃ b off, a = some ⟨b, off, none⟩ ∧ ∀ i, i < n → w.cell? ⟨b, off + i, none⟩ = some (.int .u32 (f i)))
theorem WordsAt.keep {w w' : World} {a : Option Addr} {n : Nat} {f : Nat → Int} (h : WordsAt w a n f) (hb : Below w.heap.size w w') : WordsAt w' a n f := by
  refine ⟨h.1, ?_⟩
  rcases h.2 with h0 | ⟨b, off, e, hc⟩
  · exact .inl h0
  · exact .inr ⟨b, off, e, fun i hi => (World.cell?_of_block (w := w) (a := ⟨b, off + i, none⟩) (hb.block _ (block_lt_of_cell (hc i hi)))).trans (hc i hi)⟩
theorem told_parts : (Tryz.prog.info? 73).map (fun i => (i.zero, i.size, i.bytes)) = some (some (.agg #[.int .i64 0, .int .i64 0, .int .i64 0, .int .i64 0, .int .i64 0, .int .i64 0]), 6, 48) := by kernel_rfl
/-- words lie in no machine -/
theorem words_ne {w : World} {P : st.Pl} {code : Nat → st.Told} {s : st.S} (h : IsMach w P code s) {b o : Nat} {v : Int} (hc : w.cell? ⟨b, o, none⟩ = some (.int .u32 v)) : b ≠ P.p := by
  intro e
  subst e
  rw [cell_of_row _ _ _ _ _ _ h.row] at hc
  by_cases ho : o < 32
  · rw [st.mcells_reg _ _ _ _ _ ho] at hc
    cases hc
  · obtain ⟨j, rfl⟩ : ∃ j, o = 32 + j := ⟨o - 32, by omega⟩
    rw [st.mcells_tail] at hc
    match j with
    | 0 => cases hc
    | 1 => cases hc
    | 2 => cases hc
    | 3 => cases hc
    | j + 4 => cases hc
/-- while the words are told -/
structure CInv (w wr : World) (P : st.Pl) (s : st.S) (B n : Nat) (f : Nat → Int) (k : Nat) : Prop where
  row : wr.heap[P.p]? = some (.cells (st.mcells s P.mp (.slice (some ⟨B, 0, none⟩) n n) P.db) 69 (0, 0))
  told : wr.heap[B]? = some (.cells (st.tflat (st.codeK f k) n).toArray 73 (0, 0))
  but : But2 P.p P.p w wr
theorem CInv.lt {w wr : World} {P : st.Pl} {s : st.S} {B n : Nat} {f : Nat → Int} {k : Nat} (h : CInv w wr P s B n f k) : B < wr.heap.size ∧ P.p < wr.heap.size := ⟨(Array.getElem?_eq_some_iff.1 h.told).1, (Array.getElem?_eq_some_iff.1 h.row).1⟩
theorem CInv.keep {w wr w' : World} {P : st.Pl} {s : st.S} {B n : Nat} {f : Nat → Int} {k : Nat} (h : CInv w wr P s B n f k) (hb : Below wr.heap.size wr w') : CInv w w' P s B n f k :=
  ⟨(hb.block _ h.lt.2).trans h.row, (hb.block _ h.lt.1).trans h.told, h.but.trans (But2.of_below hb)⟩
theorem CInv.cell {w wr : World} {P : st.Pl} {s : st.S} {B n : Nat} {f : Nat → Int} {k : Nat} (h : CInv w wr P s B n f k) (hk : k < n) : (wr.cell? ⟨B, k * 6, none⟩ = some (.int .i64 0) ∧ wr.cell? ⟨B, k * 6 + 1, none⟩ = some (.int .i64 0) ∧ wr.cell? ⟨B, k * 6 + 2, none⟩ = some (.int .i64 0) ∧ wr.cell? ⟨B, k * 6 + 3, none⟩ = some (.int .i64 0) ∧ wr.cell? ⟨B, k * 6 + 4, none⟩ = some (.int .i64 0) ∧ wr.cell? ⟨B, k * 6 + 5, none⟩ = some (.int .i64 0)) ∧ (∀ o, wr.frozen? ⟨B, o, none⟩ = false) := by
  have hc : ∀ j, j < 6 → wr.cell? ⟨B, k * 6 + j, none⟩ = some (.int .i64 0) := by
    intro j hj
    rw [cell_of_row _ _ _ _ _ _ h.told, List.getElem?_toArray, st.tflat_at _ _ _ _ hk hj]
    have e : st.codeK f k k = st.noTold := by unfold st.codeK; rw [if_neg (by omega)]
    rw [e]
    have hc : j = 0 ∨ j = 1 ∨ j = 2 ∨ j = 3 ∨ j = 4 ∨ j = 5 := by omega
    rcases hc with rfl | rfl | rfl | rfl | rfl | rfl <;> rfl
  exact ⟨⟨hc 0 (by omega), hc 1 (by omega), hc 2 (by omega), hc 3 (by omega), hc 4 (by omega), hc 5 (by omega)⟩, fun o => frozen_of_row _ _ _ _ _ h.told⟩
/-- the row turns, alone -/
theorem CInv.turn {w wr w' : World} {P : st.Pl} {s : st.S} {B n : Nat} {f : Nat → Int} {k : Nat} (h : CInv w wr P s B n f k) (hB : w.heap.size ≤ B) (ho : kt.Only B wr w') (hr : w'.heap[B]? = some (.cells (st.tflat (st.codeK f (k + 1)) n).toArray 73 (0, 0))) : CInv w w' P s B n f (k + 1) := by
  have hne : P.p ≠ B := type_ne h.row h.told (by decide)
  exact ⟨(ho.block _ hne).trans h.row, hr, ⟨ho.os.trans h.but.os, ho.tape.trans h.but.tape, ho.output.trans h.but.output, Nat.le_trans h.but.size (by rw [ho.size]; exact Nat.le_refl _), fun j h1 h2 h3 => (ho.block j (by omega)).trans (h.but.block j h1 h2 h3)⟩⟩
/-- what Load answers -/
def CodePost (P : st.Pl) (n : Nat) (f : Nat → Int) (s : st.S) (w : World) (e : Ending) (w' : World) : Prop :=
  ∃ B, e = .returned (.int .i64 0) ∧ IsMach w' { P with ca := some ⟨B, 0, none⟩, n := n, c := n } (fun k => st.toldOf (f k)) s ∧ But2 P.p P.p w w'
set_option maxHeartbeats 3200000 in
theorem code_any (w : World) (P : st.Pl) (code : Nat → st.Told) (s : st.S) (a : Option Addr) (n c : Nat) (f : Nat → Int) (h : IsMach w P code s) (hw : WordsAt w a n f) (hn : n ≤ 65536) :
    Calls Tryz.prog 43 #[.pointer (some ⟨P.p, 0, none⟩), .slice a n c] w (CodePost P n f s w) := by
  have HM := bl.hid h
  have HW := bl.hid hw
  have hl := h.lt
  have c34 := h.codeC
  have fr := frozen_of_row w P.p 34 _ _ h.row
  have HN := bl.hid (mnone_any w P code s h)
  obtain ⟨zi, hzi, hz0, hz1, hz2⟩ := info_parts told_parts
  have HZi : Hid (Tryz.prog.info? 73 = some zi ∧ zi.zero = some (.agg #[.int .i64 0, .int .i64 0, .int .i64 0, .int .i64 0, .int .i64 0, .int .i64 0]) ∧ zi.size = 6 ∧ zi.bytes = 48) := bl.hid ⟨hzi, hz0, hz1, hz2⟩
  clear h hw hzi hz0 hz1 hz2
  go_enter Tryz.func43, Tryz.ntmps43
  go_wp2_with fail
  refine HN.out.mono ?_
  rintro e w0 ⟨rfl, rfl⟩
  go_wp2_with (refine wpList_make_full _ rfl _ _ 66 rfl w0.heap.size 73 zi (.agg #[.int .i64 0, .int .i64 0, .int .i64 0, .int .i64 0, .int .i64 0, .int .i64 0]) 6 Tryz.underlying66 HZi.out.1 HZi.out.2.1 HZi.out.2.2.1 .i64 .i64 n n n rfl rfl rfl rfl (by rw [HZi.out.2.2.2]; omega) (by unfold maxLen; omega) (Nat.le_refl _) ?_)
  intro w1 hown hg
  have hb1 : Below w0.heap.size w0 w1 := ⟨hg.os, hg.tape, hg.output, hg.size, fun k hk => hg.block k hk (by simp)⟩
  have hrowB : w1.heap[w0.heap.size]? = some (.cells (st.tflat (fun _ => st.noTold) n).toArray 73 (0, 0)) := by
    rcases hown.2 with ⟨h1, _⟩ | ⟨g', cap', cur, h1, h2, h3, h4, h5, h6, h7⟩
    · cases h1
    · injection h1 with h1 h8 h9
      injection h1 with h1
      injection h1 with h1
      subst h1 h9
      rw [h3]
      congr 2
      apply Array.toList_inj.1
      rw [List.take_of_length_le (by simp [h6])] at h7
      rw [h7]
      exact st.made_zero n
  have hM1 := HM.out.keep hb1
  have hp1 : P.p < w1.heap.size := hM1.lt
  have d34 := hM1.codeC
  have fr1 := frozen_of_row w1 P.p 34 _ _ hM1.row
  have hI : CInv w0 (w1.setCell ⟨P.p, 34, none⟩ (.slice (some ⟨w0.heap.size, 0, none⟩) n n)) P s w0.heap.size n f 0 := by
    refine ⟨by rw [heap_setCell_same _ _ _ _ _ _ hM1.row, st.mcells_code], ?_, (But2.of_below hb1).trans (But2.of_only (kt.Only.setCell _ _ _ _))⟩
    rw [Below.heap_setCell _ _ _ _ (by show w0.heap.size ≠ P.p; omega), hrowB]
    rw [st.tflat_ext (st.codeK f 0) (fun _ => st.noTold) n (fun k _ => by unfold st.codeK; rw [if_neg (by omega)])]
  have HI := bl.hid hI
  clear hown hg hb1 hrowB hM1 hI c34 fr
  go_wp2
  clear d34 fr1
  go_loopw [22] (fun v wr => ∃ k : Nat, k ≤ n ∧ v = .int .i64 k ∧ CInv w0 wr P s w0.heap.size n f k) (fun v _ => n - (intOf v).toNat)
  case atStart => exact ⟨0, by omega, rfl, HI.out⟩
  case round =>
    obtain ⟨k, hk, rfl, hI⟩ := hrel
    by_cases hlt : k < n
    · obtain ⟨b, off, hae, hwc⟩ : ∃ b off, a = some ⟨b, off, none⟩ ∧ ∀ i, i < n → w0.cell? ⟨b, off + i, none⟩ = some (.int .u32 (f i)) := by
        rcases HW.out.2 with h | h
        · omega
        · exact h
      subst hae
      have hwk := hwc k hlt
      have hbp : b ≠ P.p := words_ne HM.out hwk
      have hw1 : wr.cell? ⟨b, off + k, none⟩ = some (.int .u32 (f k)) := (World.cell?_of_block (w := w0) (a := ⟨b, off + k, none⟩) (hI.but.block b hbp hbp (block_lt_of_cell hwk))).trans hwk
      obtain ⟨v0, v1⟩ := HW.out.1 k hlt
      obtain ⟨v, hv⟩ : ∃ v, f k = v := ⟨_, rfl⟩
      rw [hv] at hw1 v0 v1
      obtain ⟨t, ht⟩ : ∃ t, st.toldOf v = t := ⟨_, rfl⟩
      have HDc : Hid (∀ wx, Below wr.heap.size wr wx → Calls Tryz.prog 66 #[.int .u32 v] wx fun e w2 => e = .returned (.tuple #[.agg #[.int .i64 t.i.op, .int .i64 t.i.rd, .int .i64 t.i.rs1, .int .i64 t.i.rs2, .int .i64 t.i.im], .int .i64 t.e]) ∧ Below wr.heap.size wr w2) := bl.hid (fun wx hb => by
        have := decode_any v v0 v1 wx
        rw [(st.toldOf_row v).1, (st.toldOf_row v).2, ht] at this
        exact this.mono (fun e w2 q => ⟨q.1, hb.trans (q.2.mono hb.size)⟩))
      have e34 : wr.cell? ⟨P.p, 34, none⟩ = some (.slice (some ⟨w0.heap.size, 0, none⟩) n n) := (cell_of_row _ _ _ _ _ _ hI.row).trans (st.mcells_tail _ _ _ _ 2)
      have HInv := bl.hid hI
      have HB : Hid (Below wr.heap.size wr wr.drew) := bl.hid (Below.refl _ _).drew
      have HK : Hid (∀ w2, Below wr.heap.size wr w2 → w2.cell? ⟨P.p, 34, none⟩ = some (.slice (some ⟨w0.heap.size, 0, none⟩) n n) ∧ ((w2.cell? ⟨w0.heap.size, k * 6, none⟩ = some (.int .i64 0) ∧ w2.cell? ⟨w0.heap.size, k * 6 + 1, none⟩ = some (.int .i64 0) ∧ w2.cell? ⟨w0.heap.size, k * 6 + 2, none⟩ = some (.int .i64 0) ∧ w2.cell? ⟨w0.heap.size, k * 6 + 3, none⟩ = some (.int .i64 0) ∧ w2.cell? ⟨w0.heap.size, k * 6 + 4, none⟩ = some (.int .i64 0) ∧ w2.cell? ⟨w0.heap.size, k * 6 + 5, none⟩ = some (.int .i64 0)) ∧ (∀ o, w2.frozen? ⟨w0.heap.size, o, none⟩ = false))) := bl.hid (fun w2 hb => by
        have h2 := hI.keep hb
        exact ⟨(cell_of_row _ _ _ _ _ _ h2.row).trans (st.mcells_tail _ _ _ _ 2), h2.cell hlt⟩)
      have HV : Hid (st.toldOf (f k) = t) := bl.hid (by rw [hv]; exact ht)
      have hlt2 : (k : Int) < n := by omega
      have hne : w0.heap.size ≠ P.p := by have := HM.out.lt; omega
      clear hwc hwk hbp hI hv ht v0 v1
      go_wp2
      go_region_held3 (fun w' => w'.cell? ⟨P.p, 34, none⟩ = some (.slice (some ⟨w0.heap.size, 0, none⟩) n n)) ((first | with_reducible assumption | go_keep))
        ((first
          | (go_at_call 66; with_reducible refine (HDc.out _ HB.out).mono ?_; rintro e w2 ⟨rfl, hb2⟩; obtain ⟨y34, ⟨y0, y1, y2, y3, y4, y5⟩, yf⟩ := HK.out _ hb2; have HB2 := bl.hid hb2; clear hb2)))
      have hI2 := HInv.out.keep HB2.out
      have h0 := hI2.told
      have h1 := heap_setCell_same _ _ (k * 6) _ _ (.int .i64 t.i.op) h0
      have h2 := heap_setCell_same _ _ (k * 6 + 1) _ _ (.int .i64 t.i.rd) h1
      have h3 := heap_setCell_same _ _ (k * 6 + 2) _ _ (.int .i64 t.i.rs1) h2
      have h4 := heap_setCell_same _ _ (k * 6 + 3) _ _ (.int .i64 t.i.rs2) h3
      have h5 := heap_setCell_same _ _ (k * 6 + 4) _ _ (.int .i64 t.i.im) h4
      have h6 := heap_setCell_same _ _ (k * 6 + 5) _ _ (.int .i64 t.e) h5
      rw [st.tflat_put (st.codeK f k) n k t hlt, ← HV.out, st.codeK_step, HV.out] at h6
      have HN := bl.hid (hI2.turn (Nat.le_refl _) ((((((kt.Only.setCell _ _ _ _).trans (kt.Only.setCell _ _ _ _)).trans (kt.Only.setCell _ _ _ _)).trans (kt.Only.setCell _ _ _ _)).trans (kt.Only.setCell _ _ _ _)).trans (kt.Only.setCell _ _ _ _)) h6)
      clear hI2 h0 h1 h2 h3 h4 h5 h6 y0 y1 y2 y3 y4 y5 yf y34 e34
      go_wp2
      exact ⟨⟨k + 1, by omega, by go_num, HN.out⟩, by simp [intOf]; omega⟩
    · obtain rfl : k = n := by omega
      have HE : Hid (CodePost P k f s w0 (.returned (.int .i64 0)) wr) := bl.hid ⟨w0.heap.size, rfl, by
        have hm := HM.out
        have hbl : ∀ j, j ≠ P.p → j < w0.heap.size → wr.heap[j]? = w0.heap[j]? := fun j h1 h2 => hI.but.block j h1 h1 h2
        refine ⟨hI.row, hm.mem.kept (hbl _ hm.ne_mp.symm hm.mem.lt.1) (hbl _ hm.ne_g.symm hm.mem.lt.2), hm.deeds.kept (hbl _ hm.ne_db.symm hm.deeds.lt), .inr ⟨w0.heap.size, rfl, [], ?_⟩, hm.ok, fun j _ => st.toldOf_ok _, hn⟩
        rw [List.append_nil, st.tflat_ext (fun j => st.toldOf (f j)) (st.codeK f k) k (fun j hj => by unfold st.codeK; rw [if_pos hj])]
        exact hI.told, hI.but⟩
      clear hI
      go_wp2
      go_ret
      exact HE.out
end Go.Proofs.YtjjkocklpcdbkaaGreat
