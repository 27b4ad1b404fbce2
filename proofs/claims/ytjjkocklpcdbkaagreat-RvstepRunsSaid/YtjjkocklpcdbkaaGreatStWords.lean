/- words, six: instructions as words. -/
import Derived.Test.YtjjkocklpcdbkaaGreatStCode
import Derived.Deep.AppendLies
import Derived.Deep.Cut
namespace Go.Proofs.YtjjkocklpcdbkaaGreat
open Go.RowKit
set_option linter.unusedVariables false
set_option maxRecDepth 100000
namespace st
/-- the word of an instruction -/
def enc (i : In) : Int := rv.encI i.op i.rd i.rs1 i.rs2 i.im
/-- is it one that has a word? -/
def InC (i : In) : Prop := rv.chkI i.op i.rd i.rs1 i.rs2 i.im = 0
def wordsV (L : List In) : List Value := L.map (fun i => .int .u32 (enc i))
def sixL (by' : Int) : List In := [⟨22, 1, 0, 0, 5⟩, ⟨28, 2, 1, 0, by'⟩, ⟨21, 0, 2, 1, 0⟩, ⟨11, 3, 2, 0, 0⟩, ⟨5, 0, 1, 3, -8⟩, ⟨63, 0, 0, 0, 0⟩]
theorem six_ok2 : ((sixL 2).all fun i => decide (rv.chkI i.op i.rd i.rs1 i.rs2 i.im = 0)) = true := by kernel_rfl
theorem six_ok4 : ((sixL 4).all fun i => decide (rv.chkI i.op i.rd i.rs1 i.rs2 i.im = 0)) = true := by kernel_rfl
theorem six_ok (by' : Int) (h : by' = 2 ∨ by' = 4) : ∀ x ∈ sixL by', InC x := by
  intro x hx
  rcases h with rfl | rfl
  · have := List.all_eq_true.1 six_ok2 x hx
    simpa [InC] using this
  · have := List.all_eq_true.1 six_ok4 x hx
    simpa [InC] using this
end st
/-- instructions that lie somewhere -/
def InsAt (w : World) (b : Nat) (L : List st.In) : Prop := ∀ (k : Nat) (x : st.In), L[k]? = some x → w.cell? ⟨b, k * 5, none⟩ = some (.int .i64 x.op) ∧ w.cell? ⟨b, k * 5 + 1, none⟩ = some (.int .i64 x.rd) ∧ w.cell? ⟨b, k * 5 + 2, none⟩ = some (.int .i64 x.rs1) ∧ w.cell? ⟨b, k * 5 + 3, none⟩ = some (.int .i64 x.rs2) ∧ w.cell? ⟨b, k * 5 + 4, none⟩ = some (.int .i64 x.im)
theorem InsAt.keep {w w' : World} {b : Nat} {L : List st.In} (h : InsAt w b L) (hb : b < w.heap.size) (hk : Below w.heap.size w w') : InsAt w' b L := by
  intro k x hx
  obtain ⟨c0, c1, c2, c3, c4⟩ := h k x hx
  exact ⟨(hk.cell hb).trans c0, (hk.cell hb).trans c1, (hk.cell hb).trans c2, (hk.cell hb).trans c3, (hk.cell hb).trans c4⟩
theorem own_mono {w : World} {base base' n size : Nat} {e : TypeId} {v : Value} {xs : List Value} (h : w.ownsRow base e size v n xs) (hb : base' ≤ base) : w.ownsRow base' e size v n xs := by
  refine ⟨h.1, ?_⟩
  rcases h.2 with h0 | ⟨g, cap, cur, h1, h2, r⟩
  · exact .inl h0
  · exact .inr ⟨g, cap, cur, h1, Nat.le_trans hb h2, r⟩
theorem u32_parts : (Tryz.prog.info? 97).map (fun i => (i.zero, i.size, i.bytes)) = some (some (.int .u32 0), 1, 4) := by kernel_rfl
theorem own_below {w w' : World} {base n size : Nat} {e : TypeId} {v : Value} {xs : List Value} (h : w.ownsRow base e size v n xs) (hb : Below w.heap.size w w') : w'.ownsRow base e size v n xs := by
  refine h.kept (row := none) ⟨hb.os, hb.tape, hb.output, hb.size, fun k hk _ => hb.block k hk⟩ ?_
  cases hv : v.ownBlock
  · exact .inl rfl
  · exact .inr (by simp)
set_option maxHeartbeats 3200000 in
theorem words_any (b c : Nat) (L : List st.In) (w : World) (h : InsAt w b L) (hb : b < w.heap.size) (hl : L.length ≤ 60) (hc : ∀ x ∈ L, st.InC x) :
    Calls Tryz.prog 65 #[.slice (some ⟨b, 0, none⟩) L.length c] w fun e w' => ∃ v, e = .returned v ∧ w'.ownsRow w.heap.size 97 1 v L.length (st.wordsV L) ∧ Below w.heap.size w w' := by
  obtain ⟨zi, hzi, hz0, hz1, hz2⟩ := info_parts u32_parts
  have HZi : Hid (Tryz.prog.info? 97 = some zi ∧ zi.zero = some (.int .u32 0) ∧ zi.size = 1 ∧ zi.bytes = 4) := bl.hid ⟨hzi, hz0, hz1, hz2⟩
  have HI := bl.hid h
  have HC := bl.hid hc
  clear h hc hzi hz0 hz1 hz2
  go_enter Tryz.func65, Tryz.ntmps65
  go_wp2
  go_loopw [3, 4] (fun u v wr => ∃ k : Nat, k ≤ L.length ∧ v = .int .i64 k ∧ Below w.heap.size w wr ∧ wr.ownsRow w.heap.size 97 1 u k (st.wordsV (L.take k))) (fun _ v _ => L.length - (intOf v).toNat)
  case atStart => exact ⟨0, by omega, rfl, Below.refl _ _, World.ownsRow_nil _ _ _ _⟩
  case round =>
    obtain ⟨k, hk, rfl, hb1, ho⟩ := hrel
    by_cases hlt : k < L.length
    · obtain ⟨x, hx⟩ : ∃ x, L[k]? = some x := ⟨_, List.getElem?_eq_getElem hlt⟩
      obtain ⟨d0, d1, d2, d3, d4⟩ := HI.out.keep hb hb1 k x hx
      have hz : rv.chkI x.op x.rd x.rs1 x.rs2 x.im = 0 := HC.out x (List.mem_of_getElem? hx)
      have HEn := bl.hid (fun w => encode_any x.op x.rd x.rs1 x.rs2 x.im w)
      have HTk : Hid (st.wordsV (L.take (k + 1)) = st.wordsV (L.take k) ++ [.int .u32 (st.enc x)]) := bl.hid (by
        rw [List.take_add_one, hx]
        unfold st.wordsV
        rw [List.map_append]
        rfl)
      rw [hz] at HEn
      obtain ⟨E, hE⟩ : ∃ E, st.enc x = E := ⟨_, rfl⟩
      have hE' : rv.encI x.op x.rd x.rs1 x.rs2 x.im = E := hE
      rw [hE] at HTk
      rw [hE'] at HEn
      have HB := bl.hid hb1
      have HO := bl.hid ho
      have hs1 := hb1.size
      clear hz hE hE' hx hb1 ho
      obtain ⟨xo, xd, xs1, xs2, xi⟩ := x
      dsimp only at d0 d1 d2 d3 d4 HEn
      go_wp2_with fail
      refine (HEn.out _).mono ?_
      rintro e w3 ⟨rfl, hb3⟩
      have hs3 := hb3.size
      have HO3 := bl.hid (own_below HO.out hb3)
      have HB3 : Hid (Below w.heap.size w w3) := bl.hid (HB.out.trans (hb3.mono hs1))
      have HNw := bl.hid (World.news_of_block (heap_alloc_new w3 (.cells #[.int .u32 E] 97)))
      have HOne : Hid (∀ u ∈ [Value.int .u32 E], u.oneCell' = true) := bl.hid (by intro u hu; simp at hu; subst hu; rfl)
      clear hb3 d0 d1 d2 d3 d4
      go_wp2_with (at_builtin; refine wpList_append_lies _ rfl _ _ 22 rfl w.heap.size 97 zi (.int .u32 0) 1 4 Tryz.underlying22 HZi.out.1 HZi.out.2.1 HZi.out.2.2.1 HZi.out.2.2.2 rfl (by decide) _ k (st.wordsV (L.take k)) rfl (HO3.out.alloc _) ⟨w3.heap.size, 0, none⟩ 1 1 [.int .u32 E] rfl rfl HNw.out HOne.out (by omega) ?c3 ?c4 ?c5 (w3.heap.size + 1) (World.size_alloc _ _) ?_)
      case c3 => unfold maxLen; omega
      case c4 => omega
      case c5 => first | omega | (rw [World.size_alloc]; omega) | (show _ ≤ (w3.alloc _).heap.size; rw [World.size_alloc]; omega)
      intro g1 cap1 w' h1 h2 h3 h4
      have HO' : Hid (w'.ownsRow w.heap.size 97 1 (.slice (some ⟨g1, 0, none⟩) (k + 1) cap1) (k + 1) (st.wordsV (L.take (k + 1)))) := bl.hid (by
        rw [HTk.out]
        exact h1)
      have HB' : Hid (Below w.heap.size w w') := bl.hid ((HB3.out.alloc (by omega) _).grown h2 (by rw [World.size_alloc]; omega) (fun i hi => (HO3.out.lt i hi).1))
      clear h1 h2 h3 h4
      go_wp2
      exact ⟨⟨k + 1, by omega, by go_num, HB'.out, HO'.out⟩, by simp [intOf]; omega⟩
    · obtain rfl : k = L.length := by omega
      rw [List.take_length] at ho
      have HB := bl.hid hb1
      have HO := bl.hid ho
      clear hb1 ho
      go_wp2
      go_ret
      exact ⟨_, rfl, HO.out, HB.out⟩
theorem six_at (w : World) (by' : Int) : InsAt (w.alloc (.cells #[.int .i64 22, .int .i64 1, .int .i64 0, .int .i64 0, .int .i64 5, .int .i64 28, .int .i64 2, .int .i64 1, .int .i64 0, .int .i64 by', .int .i64 21, .int .i64 0, .int .i64 2, .int .i64 1, .int .i64 0, .int .i64 11, .int .i64 3, .int .i64 2, .int .i64 0, .int .i64 0, .int .i64 5, .int .i64 0, .int .i64 1, .int .i64 3, .int .i64 (-8), .int .i64 63, .int .i64 0, .int .i64 0, .int .i64 0, .int .i64 0] 71)) w.heap.size (st.sixL by') := by
  intro k x hx
  have hr := heap_alloc_new w (.cells #[.int .i64 22, .int .i64 1, .int .i64 0, .int .i64 0, .int .i64 5, .int .i64 28, .int .i64 2, .int .i64 1, .int .i64 0, .int .i64 by', .int .i64 21, .int .i64 0, .int .i64 2, .int .i64 1, .int .i64 0, .int .i64 11, .int .i64 3, .int .i64 2, .int .i64 0, .int .i64 0, .int .i64 5, .int .i64 0, .int .i64 1, .int .i64 3, .int .i64 (-8), .int .i64 63, .int .i64 0, .int .i64 0, .int .i64 0, .int .i64 0] 71)
  match k, hx with
  | 0, hx => injection hx with hx; subst hx; exact ⟨(cell_of_row _ _ _ _ _ _ hr).trans rfl, (cell_of_row _ _ _ _ _ _ hr).trans rfl, (cell_of_row _ _ _ _ _ _ hr).trans rfl, (cell_of_row _ _ _ _ _ _ hr).trans rfl, (cell_of_row _ _ _ _ _ _ hr).trans rfl⟩
  | 1, hx => injection hx with hx; subst hx; exact ⟨(cell_of_row _ _ _ _ _ _ hr).trans rfl, (cell_of_row _ _ _ _ _ _ hr).trans rfl, (cell_of_row _ _ _ _ _ _ hr).trans rfl, (cell_of_row _ _ _ _ _ _ hr).trans rfl, (cell_of_row _ _ _ _ _ _ hr).trans rfl⟩
  | 2, hx => injection hx with hx; subst hx; exact ⟨(cell_of_row _ _ _ _ _ _ hr).trans rfl, (cell_of_row _ _ _ _ _ _ hr).trans rfl, (cell_of_row _ _ _ _ _ _ hr).trans rfl, (cell_of_row _ _ _ _ _ _ hr).trans rfl, (cell_of_row _ _ _ _ _ _ hr).trans rfl⟩
  | 3, hx => injection hx with hx; subst hx; exact ⟨(cell_of_row _ _ _ _ _ _ hr).trans rfl, (cell_of_row _ _ _ _ _ _ hr).trans rfl, (cell_of_row _ _ _ _ _ _ hr).trans rfl, (cell_of_row _ _ _ _ _ _ hr).trans rfl, (cell_of_row _ _ _ _ _ _ hr).trans rfl⟩
  | 4, hx => injection hx with hx; subst hx; exact ⟨(cell_of_row _ _ _ _ _ _ hr).trans rfl, (cell_of_row _ _ _ _ _ _ hr).trans rfl, (cell_of_row _ _ _ _ _ _ hr).trans rfl, (cell_of_row _ _ _ _ _ _ hr).trans rfl, (cell_of_row _ _ _ _ _ _ hr).trans rfl⟩
  | 5, hx => injection hx with hx; subst hx; exact ⟨(cell_of_row _ _ _ _ _ _ hr).trans rfl, (cell_of_row _ _ _ _ _ _ hr).trans rfl, (cell_of_row _ _ _ _ _ _ hr).trans rfl, (cell_of_row _ _ _ _ _ _ hr).trans rfl, (cell_of_row _ _ _ _ _ _ hr).trans rfl⟩
  | k + 6, hx => cases hx
/-- the words of code lie somewhere -/
def codeF (L : List st.In) (k : Nat) : Int := (L[k]?.map st.enc).getD 0
theorem own_wordsAt {w : World} {base n : Nat} {v : Value} {L : List st.In} (h : w.ownsRow base 97 1 v n (st.wordsV L)) (hn : L.length = n) (hr : ∀ x ∈ L, 0 ≤ st.enc x ∧ st.enc x < 4294967296) :
    ∃ a cap, v = .slice a n cap ∧ WordsAt w a n (codeF L) := by
  subst hn
  have hf : ∀ i, i < L.length → 0 ≤ codeF L i ∧ codeF L i < 4294967296 := by
    intro i hi
    unfold codeF
    rw [List.getElem?_eq_getElem hi]
    exact hr _ (List.getElem_mem hi)
  rcases h.2 with ⟨rfl, h0⟩ | ⟨g, cap, cur, h1, h2, h3, h4, h5, h6, h7⟩
  · exact ⟨none, 0, by rw [h0], hf, .inl h0⟩
  · refine ⟨some ⟨g, 0, none⟩, cap, h1, hf, .inr ⟨g, 0, rfl, fun i hi => ?_⟩⟩
    rw [Nat.zero_add, cell_of_row _ _ _ _ _ _ h3]
    have e : (st.wordsV L)[i]? = some (.int .u32 (codeF L i)) := by
      unfold st.wordsV codeF
      rw [List.getElem?_map, List.getElem?_eq_getElem hi]
      rfl
    rw [← h7] at e
    rw [List.getElem?_take_of_lt (by omega)] at e
    rw [← e, Array.getElem?_toList]
set_option maxHeartbeats 3200000 in
theorem six_any (by' : Int) (hby : by' = 2 ∨ by' = 4) (w : World) : Calls Tryz.prog 42 #[.int .i64 by'] w fun e w' => ∃ v, e = .returned v ∧ w'.ownsRow w.heap.size 97 1 v 6 (st.wordsV (st.sixL by')) ∧ Below w.heap.size w w' := by
  have HA := bl.hid (six_at w by')
  have HO := bl.hid (st.six_ok by' hby)
  go_enter Tryz.func42, Tryz.ntmps42
  go_wp2_with fail
  refine (words_any w.heap.size 6 (st.sixL by') _ HA.out (by rw [World.size_alloc]; omega) (by show 6 ≤ 60; omega) HO.out).mono ?_
  rintro e w1 ⟨v, rfl, ho, hb⟩
  rw [World.size_alloc] at ho hb
  have HO1 : Hid (w1.ownsRow w.heap.size 97 1 v 6 (st.wordsV (st.sixL by'))) := bl.hid (own_mono ho (Nat.le_succ _))
  have HB1 : Hid (Below w.heap.size w w1) := bl.hid (((Below.refl _ _).alloc (Nat.le_refl _) _).trans (hb.mono (Nat.le_succ _)))
  clear ho hb
  go_wp2
  go_ret
  exact ⟨_, rfl, HO1.out, HB1.out⟩
end Go.Proofs.YtjjkocklpcdbkaaGreat
