/- regs, Pick; a run is two runs; a machine beside another. -/
import Derived.Test.YtjjkocklpcdbkaaStBegin
import Derived.Test.YtjjkocklpcdbkaaStKnown
namespace Go.Proofs.Ytjjkocklpcdbkaa
open Go.RowKit
set_option linter.unusedVariables false
set_option maxRecDepth 100000
def st.pickV (x n : Int) : Int := (x.tmod n + n) % n
theorem st.pick_bd (x n : Int) (h : 1 ≤ n) : 0 ≤ st.pickV x n ∧ st.pickV x n < n := by
  unfold st.pickV
  exact ⟨Int.emod_nonneg _ (by omega), Int.emod_lt_of_pos _ (by omega)⟩
theorem pick_val (x n : Int) (w : World) (h1 : 1 ≤ n) (h2 : n ≤ 1000000) (hx0 : -9223372036854775808 ≤ x) (hx1 : x ≤ 9223372036854775807) :
    Calls Try.prog 15 #[.int .i64 x, .int .i64 n] w fun e w' => e = .returned (.int .i64 (st.pickV x n)) ∧ w = w' := by
  have b1 : -n < x.tmod n := by have := Int.lt_tmod_of_pos x (b := n) (by omega); omega
  have b2 : x.tmod n < n := Int.tmod_lt_of_pos x (by omega)
  go_enter Try.func15, Try.ntmps15
  go_wp2
  go_ret
  exact ⟨rfl, rfl⟩
namespace st
/-- a run, and then another -/
theorem runS_add (code : Nat → Told) (n : Nat) (s : S) (a : Nat) (h : (runS code n s a).1 = 0) : ∀ b, runS code n s (a + b) = ((runS code n (runS code n s a).2.2 b).1, (runS code n s a).2.1 + (runS code n (runS code n s a).2.2 b).2.1, (runS code n (runS code n s a).2.2 b).2.2)
  | 0 => by
    show runS code n s a = (0, (runS code n s a).2.1 + 0, (runS code n s a).2.2)
    rw [Int.add_zero, ← h]
  | b + 1 => by
    have ih := runS_add code n s a h b
    show (if (runS code n s (a + b)).1 ≠ 0 then runS code n s (a + b) else if (step code n (runS code n s (a + b)).2.2).1 = 0 then (0, (runS code n s (a + b)).2.1 + 1, (step code n (runS code n s (a + b)).2.2).2) else ((step code n (runS code n s (a + b)).2.2).1, (runS code n s (a + b)).2.1, (step code n (runS code n s (a + b)).2.2).2)) = _
    rw [ih]
    obtain ⟨q, hq⟩ : ∃ q, runS code n s a = q := ⟨_, rfl⟩
    rw [hq]
    show _ = ((if (runS code n q.2.2 b).1 ≠ 0 then runS code n q.2.2 b else if (step code n (runS code n q.2.2 b).2.2).1 = 0 then (0, (runS code n q.2.2 b).2.1 + 1, (step code n (runS code n q.2.2 b).2.2).2) else ((step code n (runS code n q.2.2 b).2.2).1, (runS code n q.2.2 b).2.1, (step code n (runS code n q.2.2 b).2.2).2)).1, q.2.1 + (if (runS code n q.2.2 b).1 ≠ 0 then runS code n q.2.2 b else if (step code n (runS code n q.2.2 b).2.2).1 = 0 then (0, (runS code n q.2.2 b).2.1 + 1, (step code n (runS code n q.2.2 b).2.2).2) else ((step code n (runS code n q.2.2 b).2.2).1, (runS code n q.2.2 b).2.1, (step code n (runS code n q.2.2 b).2.2).2)).2.1, (if (runS code n q.2.2 b).1 ≠ 0 then runS code n q.2.2 b else if (step code n (runS code n q.2.2 b).2.2).1 = 0 then (0, (runS code n q.2.2 b).2.1 + 1, (step code n (runS code n q.2.2 b).2.2).2) else ((step code n (runS code n q.2.2 b).2.2).1, (runS code n q.2.2 b).2.1, (step code n (runS code n q.2.2 b).2.2).2)).2.2)
    dsimp only
    obtain ⟨r, hr⟩ : ∃ r, runS code n q.2.2 b = r := ⟨_, rfl⟩
    rw [hr]
    by_cases h1 : r.1 ≠ 0
    · rw [if_pos h1, if_pos h1]
    · rw [if_neg h1, if_neg h1]
      by_cases h2 : (step code n r.2.2).1 = 0
      · rw [if_pos h2, if_pos h2]
        dsimp only
        rw [Int.add_assoc]
      · rw [if_neg h2, if_neg h2]
def regsV (s : S) : List Value := (List.range 32).map (fun i => .int .u64 (s.r i))
end st
theorem own_cell {w : World} {base n : Nat} {e : TypeId} {v : Value} {xs : List Value} (h : w.ownsRow base e 1 v n xs) (hn : 0 < n) : ∃ g cap, v = .slice (some ⟨g, 0, none⟩) n cap ∧ base ≤ g ∧ g < w.heap.size ∧ ∀ i u, xs[i]? = some u → w.cell? ⟨g, i, none⟩ = some u := by
  rcases h.2 with ⟨_, h0⟩ | ⟨g, cap, cur, h1, h2, h3, h4, h5, h6, h7⟩
  · omega
  · refine ⟨g, cap, h1, h2, (Array.getElem?_eq_some_iff.1 h3).1, fun i u hu => ?_⟩
    rw [cell_of_row _ _ _ _ _ _ h3, ← Array.getElem?_toList]
    rw [← h7] at hu
    by_cases hi : i < n * 1
    · rwa [List.getElem?_take_of_lt hi] at hu
    · rw [List.getElem?_take_eq_none (by omega)] at hu
      cases hu
/-- a machine stays where another turns -/
theorem IsMach.other {w w' : World} {P P' : st.Pl} {code code' : Nat → st.Told} {s s' : st.S} (h : IsMach w P code s) (h' : IsMach w P' code' s') (hb : But2 P'.p P'.g w w') (hp : P.p ≠ P'.p) (hg : P.g ≠ P'.g) : IsMach w' P code s := by
  obtain ⟨rest', hr'⟩ := h'.mem.row
  obtain ⟨rest, hr⟩ := h.mem.row
  obtain ⟨cap, _, hh⟩ := h.mem.head
  have e1 : P.p ≠ P'.g := type_ne h.row hr' (by decide)
  have e2 : P.mp ≠ P'.p := type_ne hh h'.row (by decide)
  have e3 : P.mp ≠ P'.g := type_ne hh hr' (by decide)
  have e4 : P.g ≠ P'.p := type_ne hr h'.row (by decide)
  have e5 : P.db ≠ P'.p := fun e => h.deeds.is_map (e ▸ h'.row)
  have e6 : P.db ≠ P'.g := fun e => h.deeds.is_map (e ▸ hr')
  refine ⟨(hb.block _ hp e1 h.lt).trans h.row, h.mem.kept (hb.block _ e2 e3 h.mem.lt.1) (hb.block _ e4 hg h.mem.lt.2), h.deeds.kept (hb.block _ e5 e6 h.deeds.lt), h.told.kept (fun b _ hl hc => ?_), h.ok, h.ins, h.small⟩
  obtain ⟨cs, hc⟩ := hc
  exact hb.block _ (type_ne hc h'.row (by decide)) (type_ne hc hr' (by decide)) hl
theorem u64_parts : (Try.prog.info? 28).map (fun i => (i.zero, i.size, i.bytes)) = some (some (.int .u64 0), 1, 8) := by kernel_rfl
set_option maxHeartbeats 3200000 in
theorem regs_any (w : World) (P : st.Pl) (code : Nat → st.Told) (s : st.S) (h : IsMach w P code s) :
    Calls Try.prog 18 #[.pointer (some ⟨P.p, 0, none⟩)] w fun e w' => ∃ g cap, e = .returned (.slice (some ⟨g, 0, none⟩) 32 cap) ∧ w.heap.size ≤ g ∧ g < w'.heap.size ∧ (∀ i, i < 32 → w'.cell? ⟨g, i, none⟩ = some (.int .u64 (s.r i))) ∧ Below w.heap.size w w' := by
  obtain ⟨zi, hzi, hz0, hz1, hz2⟩ := info_parts u64_parts
  have HZi : Hid (Try.prog.info? 28 = some zi ∧ zi.zero = some (.int .u64 0) ∧ zi.size = 1 ∧ zi.bytes = 8) := bl.hid ⟨hzi, hz0, hz1, hz2⟩
  have HM := bl.hid h
  clear h hzi hz0 hz1 hz2
  go_enter Try.func18, Try.ntmps18
  go_wp2
  go_loopw [3, 4] (fun u v wr => ∃ k : Nat, k ≤ 32 ∧ v = .int .i64 k ∧ Below w.heap.size w wr ∧ wr.ownsRow w.heap.size 28 1 u k ((List.range k).map (fun i => .int .u64 (s.r i)))) (fun _ v _ => 32 - (intOf v).toNat)
  case atStart => exact ⟨0, by omega, rfl, Below.refl _ _, World.ownsRow_nil _ _ _ _⟩
  case round =>
    obtain ⟨k, hk, rfl, hb1, ho⟩ := hrel
    by_cases hlt : k < 32
    · have HB := bl.hid hb1
      have HO := bl.hid ho
      have hs1 := hb1.size
      have HR := bl.hid (reg_any wr P code s k (HM.out.keep hb1) (by omega))
      have hre : s.reg k = s.r k := by unfold st.S.reg st.S.rg; rw [if_pos (by omega), Int.toNat_natCast]
      rw [hre] at HR
      obtain ⟨E, hE⟩ : ∃ E, s.r k = E := ⟨_, rfl⟩
      have HTk : Hid ((List.range (k + 1)).map (fun i => Value.int .u64 (s.r i)) = (List.range k).map (fun i => .int .u64 (s.r i)) ++ [.int .u64 E]) := bl.hid (by rw [List.range_succ, List.map_append, ← hE]; rfl)
      rw [hE] at HR
      have hlt2 : (k : Int) < 32 := by omega
      clear hb1 ho hre hE
      go_wp2_with fail
      refine HR.out.mono ?_
      rintro e w3 ⟨rfl, m, rfl⟩
      have HO3 : Hid ((wr.drewN m).ownsRow w.heap.size 28 1 _ k ((List.range k).map (fun i => .int .u64 (s.r i)))) := bl.hid (own_below HO.out ((Below.refl _ _).drewN' m))
      have HB3 : Hid (Below w.heap.size w (wr.drewN m)) := bl.hid (HB.out.drewN' m)
      have hs3 : w.heap.size ≤ (wr.drewN m).heap.size := hs1
      obtain ⟨w3, hw3⟩ : ∃ w3, wr.drewN m = w3 := ⟨_, rfl⟩
      rw [hw3] at HO3 HB3 hs3 ⊢
      have HNw := bl.hid (World.news_of_block (heap_alloc_new w3 (.cells #[.int .u64 E] 28)))
      have HOne : Hid (∀ u ∈ [Value.int .u64 E], u.oneCell' = true) := bl.hid (by intro u hu; simp at hu; subst hu; rfl)
      clear HR hw3
      go_wp2_with (at_builtin; refine wpList_append_lies _ rfl _ _ 36 rfl w.heap.size 28 zi (.int .u64 0) 1 8 Try.underlying36 HZi.out.1 HZi.out.2.1 HZi.out.2.2.1 HZi.out.2.2.2 rfl (by decide) _ k ((List.range k).map (fun i => .int .u64 (s.r i))) rfl (HO3.out.alloc _) ⟨w3.heap.size, 0, none⟩ 1 1 [.int .u64 E] rfl rfl HNw.out HOne.out (by omega) ?c3 ?c4 ?c5 (w3.heap.size + 1) (World.size_alloc _ _) ?_)
      case c3 => unfold maxLen; omega
      case c4 => omega
      case c5 => first | omega | (rw [World.size_alloc]; omega) | (show _ ≤ (w3.alloc _).heap.size; rw [World.size_alloc]; omega)
      intro g1 cap1 w' h1 h2 h3 h4
      have HO' : Hid (w'.ownsRow w.heap.size 28 1 (.slice (some ⟨g1, 0, none⟩) (k + 1) cap1) (k + 1) ((List.range (k + 1)).map (fun i => .int .u64 (s.r i)))) := bl.hid (by
        rw [HTk.out]
        exact h1)
      have HB' : Hid (Below w.heap.size w w') := bl.hid ((HB3.out.alloc (by omega) _).grown h2 (by rw [World.size_alloc]; omega) (fun i hi => (HO3.out.lt i hi).1))
      clear h1 h2 h3 h4
      go_wp2
      exact ⟨⟨k + 1, by omega, by go_num, HB'.out, HO'.out⟩, by simp [intOf]; omega⟩
    · obtain rfl : k = 32 := by omega
      obtain ⟨g, cap, rfl, hg1, hg2, hc⟩ := own_cell ho (by decide)
      have HC : Hid (∀ i, i < 32 → wr.cell? ⟨g, i, none⟩ = some (.int .u64 (s.r i))) := bl.hid (fun i hi => hc i _ (by rw [List.getElem?_map, List.getElem?_range hi]; rfl))
      have HB := bl.hid hb1
      clear hb1 ho hc
      go_wp2
      go_ret
      exact ⟨g, cap, rfl, hg1, hg2, HC.out, HB.out⟩
end Go.Proofs.Ytjjkocklpcdbkaa
