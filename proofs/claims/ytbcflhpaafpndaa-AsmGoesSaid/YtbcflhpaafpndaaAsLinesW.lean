/- lines: the lines of a run. -/
import Derived.Test.YtbcflhpaafpndaaAsList
namespace Go.Proofs.Ytbcflhpaafpndaa
open Go.RowKit
set_option linter.unusedVariables false
namespace al
open kt
/-- the lines of a run: the p-th stands there T times more -/
def linesL (ls : Nat → Ln) (p : Int) (T : Nat) : Nat → List Ln
  | 0 => []
  | i + 1 => linesL ls p T i ++ (ls i :: List.replicate (if (i : Int) = p then T else 0) (ls i))
theorem linesL_len (ls : Nat → Ln) (p : Int) (T : Nat) : ∀ k : Nat, (linesL ls p T k).length = k + if 0 ≤ p ∧ p < k then T else 0
  | 0 => by
    rw [if_neg (by omega)]
    rfl
  | k + 1 => by
    show (linesL ls p T k ++ _).length = _
    rw [List.length_append, linesL_len ls p T k]
    simp only [List.length_cons, List.length_replicate]
    by_cases h : (k : Int) = p
    · rw [if_neg (by omega), if_pos h, if_pos (by omega)]
      omega
    · rw [if_neg h]
      by_cases h2 : 0 ≤ p ∧ p < k
      · rw [if_pos h2, if_pos (by omega)]
        omega
      · rw [if_neg h2, if_neg (by omega)]
theorem linesL_mem (ls : Nat → Ln) (p : Int) (T : Nat) : ∀ k x, x ∈ linesL ls p T k → ∃ i, i < k ∧ x = ls i
  | 0, x, h => by cases h
  | k + 1, x, h => by
    rcases List.mem_append.1 h with h | h
    · obtain ⟨i, hi, e⟩ := linesL_mem ls p T k x h
      exact ⟨i, by omega, e⟩
    · rcases List.mem_cons.1 h with h | h
      · exact ⟨k, by omega, h⟩
      · exact ⟨k, by omega, (List.mem_replicate.1 h).2⟩
def pick0 (x : Int) (n : Nat) : Int := if n = 0 then 0 else pickV x n
/-- so many times more -/
def times (x : Int) : Nat := (pickV x 1060).toNat
end al
theorem own_base {w : World} {base base' : Nat} {e : TypeId} {size : Nat} {v : Value} {n : Nat} {xs : List Value} (h : w.ownsRow base e size v n xs) (hb : base' ≤ base) : w.ownsRow base' e size v n xs := by
  refine ⟨h.1, ?_⟩
  rcases h.2 with h0 | ⟨g, cap, cur, h1, h2, h3⟩
  · exact .inl h0
  · exact .inr ⟨g, cap, cur, h1, by omega, h3⟩
theorem pick0_any (x : Int) (n : Nat) (w : World) (h2 : n ≤ 1000000) (hx0 : -9223372036854775808 ≤ x) (hx1 : x ≤ 9223372036854775807) :
    Calls Try.prog 22 #[.int .i64 x, .int .i64 n] w fun e w' => e = .returned (.int .i64 (al.pick0 x n)) ∧ w = w' := by
  unfold al.pick0
  by_cases h : n = 0
  · subst h
    rw [if_pos rfl]
    exact pick_none x w
  · rw [if_neg h]
    exact pick_val x n w (by omega) (by omega) hx0 hx1
set_option maxRecDepth 100000 in
set_option maxHeartbeats 1600000 in
theorem lines_any (a : Option Addr) (n c : Nat) (ls : Nat → kt.Ln) (wh tm : Int) (w : World) (hn : n ≤ 40) (hl : kt.Lines w a n ls) (h0 : kt.i64ok wh) (h1 : kt.i64ok tm) :
    Calls Try.prog 16 #[.agg #[.slice a n c, .int .i64 wh, .int .i64 tm]] w (ListPost (al.linesL ls (al.pick0 wh n) (al.times tm) n) w) := by
  have HL := bl.hid hl
  have HP := bl.hid (fun w => pick0_any wh n w (by omega) h0.1 h0.2)
  have HT := bl.hid (fun w => pick_val tm 1060 w (by omega) (by omega) h1.1 h1.2)
  obtain ⟨p, hp⟩ : ∃ p, al.pick0 wh n = p := ⟨_, rfl⟩
  have hTb := al.pick_bd tm 1060 (by omega)
  obtain ⟨T, hT⟩ : ∃ T : Nat, al.pickV tm 1060 = T := ⟨(al.pickV tm 1060).toNat, by omega⟩
  have hT2 : al.times tm = T := by unfold al.times; omega
  rw [hp] at HP ⊢
  rw [hT] at HT hTb
  rw [hT2]
  have hTl : T < 1060 := by omega
  have hLen := al.linesL_len ls p T
  have HLen : Hid (∀ k, k ≤ n → (al.linesL ls p T k).length ≤ 1100) := bl.hid (fun k hk => by rw [hLen]; split <;> omega)
  obtain ⟨zi, hzi, hz0, hz1, hz2⟩ := info_parts line_parts
  have HZi : Hid (Try.prog.info? 35 = some zi ∧ zi.zero = some (.agg #[.int .i64 0, .int .i64 0, .int .i64 0, .int .i64 0, .int .i64 0, .int .i64 0, .int .i64 0]) ∧ zi.size = 7 ∧ zi.bytes = 56) := bl.hid ⟨hzi, hz0, hz1, hz2⟩
  clear hzi hz0 hz1 hz2 hl h0 h1 hp hT hTb hT2 hLen
  go_enter Try.func16, Try.ntmps16
  go_wp2_with fail
  refine (HP.out _).mono ?_
  rintro e w1 ⟨rfl, rfl⟩
  have hbx := heap_alloc_new w (.cells #[.slice a n c, .int .i64 wh, .int .i64 tm] 41)
  obtain ⟨w0, hw0⟩ : ∃ w0, w.alloc (.cells #[.slice a n c, .int .i64 wh, .int .i64 tm] 41) = w0 := ⟨_, rfl⟩
  have hb0 : Below w.heap.size w w0 := by rw [← hw0]; exact kt.below_row _
  have hs0 : w0.heap.size = w.heap.size + 1 := by rw [← hw0]; exact World.size_alloc _ _
  rw [hw0] at hbx
  have HBx : Hid (∀ w', Below (w.heap.size + 1) w0 w' → w'.cell? ⟨w.heap.size, 0, none⟩ = some (.slice a n c) ∧ w'.cell? ⟨w.heap.size, 1, none⟩ = some (.int .i64 wh) ∧ w'.cell? ⟨w.heap.size, 2, none⟩ = some (.int .i64 tm)) := bl.hid (fun w' h => by
    have hx := (h.block w.heap.size (by omega)).trans hbx
    exact ⟨(cell_of_row _ _ _ _ _ _ hx).trans rfl, (cell_of_row _ _ _ _ _ _ hx).trans rfl, (cell_of_row _ _ _ _ _ _ hx).trans rfl⟩)
  have HL0 : Hid (kt.Lines w0 a n ls) := bl.hid (HL.out.keep hb0)
  have HB0 := bl.hid hb0
  clear hbx hb0
  go_wp2
  clear hw0 HL
  go_loopw [3, 5] (fun u v wr => ∃ k : Nat, k ≤ n ∧ v = .int .i64 k ∧ Below (w.heap.size + 1) w0 wr ∧ wr.ownsRow (w.heap.size + 1) 35 7 u (al.linesL ls p T k).length (kt.lnFlat (al.linesL ls p T k))) (fun _ v _ => n - (intOf v).toNat)
  case atStart => exact ⟨0, by omega, rfl, Below.refl _ _, World.ownsRow_nil _ _ _ _⟩
  case round =>
    obtain ⟨k, hk, rfl, hb, ho⟩ := hrel
    obtain ⟨x0, x1, x2⟩ := HBx.out _ hb
    have HB := bl.hid hb
    have HO := bl.hid ho
    have hsz := hb.size
    have hb1 : Below w0.heap.size w0 wr := by rw [hs0]; exact hb
    clear hb ho
    by_cases hlt : k < n
    · have hat : ∃ b off, a = some ⟨b, off, none⟩ ∧ kt.LnAt wr b (off + k * 7) (ls k) := by
        rcases (HL0.out.keep hb1).at' with h | ⟨b, off, e, h⟩
        · omega
        · exact ⟨b, off, e, h k hlt⟩
      obtain ⟨b, off, rfl, hla⟩ := hat
      obtain ⟨x, hx⟩ : ∃ x, ls k = x := ⟨_, rfl⟩
      rw [hx] at hla
      have HX := bl.hid hx
      have hM := HLen.out k hk
      obtain ⟨M, hMe⟩ : ∃ M, (al.linesL ls p T k).length = M := ⟨_, rfl⟩
      rw [hMe] at hM HO
      have HM := bl.hid hMe
      clear hx hMe
      obtain ⟨kd, lb, op, rd, rs1, rs2, im⟩ := x
      obtain ⟨l0, l1, l2, l3, l4, l5, l6⟩ := hla
      dsimp only at l0 l1 l2 l3 l4 l5 l6
      have HNw := bl.hid (World.news_of_block (heap_alloc_new wr (.cells #[.int .i64 kd, .int .i64 lb, .int .i64 op, .int .i64 rd, .int .i64 rs1, .int .i64 rs2, .int .i64 im] 35)))
      have HOne : Hid (∀ u ∈ [Value.int .i64 kd, .int .i64 lb, .int .i64 op, .int .i64 rd, .int .i64 rs1, .int .i64 rs2, .int .i64 im], u.oneCell' = true) := bl.hid (by intro u hu; simp at hu; rcases hu with rfl | rfl | rfl | rfl | rfl | rfl | rfl <;> rfl)
      go_wp2_with (at_builtin; refine wpList_append_lies _ rfl _ _ 26 rfl (w.heap.size + 1) 35 zi (.agg #[.int .i64 0, .int .i64 0, .int .i64 0, .int .i64 0, .int .i64 0, .int .i64 0, .int .i64 0]) 7 56 Try.underlying26 HZi.out.1 HZi.out.2.1 HZi.out.2.2.1 HZi.out.2.2.2 rfl (by decide) _ M _ rfl (HO.out.alloc _) ⟨wr.heap.size, 0, none⟩ 1 1 [.int .i64 kd, .int .i64 lb, .int .i64 op, .int .i64 rd, .int .i64 rs1, .int .i64 rs2, .int .i64 im] rfl rfl HNw.out HOne.out (by omega) ?c3 ?c4 ?c5 (wr.heap.size + 1) (World.size_alloc _ _) ?_)
      case c3 => unfold maxLen; omega
      case c4 => omega
      case c5 => first | omega | (rw [World.size_alloc]; omega)
      intro g cap w1 h1 h2 h3 h4
      have hB1 : Below (w.heap.size + 1) w0 w1 := (HB.out.alloc (by omega) _).grown h2 (by rw [World.size_alloc]; omega) (fun j hj => (HO.out.lt j hj).1)
      obtain ⟨y0, y1, y2⟩ := HBx.out _ hB1
      have HB1 := bl.hid hB1
      have HO1 : Hid (w1.ownsRow (w.heap.size + 1) 35 7 (.slice (some ⟨g, 0, none⟩) (M + 1) cap) (M + 1) (kt.lnFlat (al.linesL ls p T k ++ (ls k :: List.replicate 0 (ls k))))) := bl.hid (by
        rw [kt.lnFlat_app, HX.out]
        exact h1)
      clear h1 h2 h3 h4 hB1 x0 x1 x2 l0 l1 l2 l3 l4 l5 l6
      go_wp2_with fail
      refine (HT.out _).mono ?_
      rintro e w2 ⟨rfl, rfl⟩
      go_wp2
      by_cases hkp : (k : Int) = p
      · subst hkp
        go_loopw [3, 6] (fun u v w3 => ∃ r j : Nat, r + j = T ∧ v = .int .i64 r ∧ Below (w.heap.size + 1) w0 w3 ∧ w3.ownsRow (w.heap.size + 1) 35 7 u (M + 1 + j) (kt.lnFlat (al.linesL ls k T k ++ (ls k :: List.replicate j (ls k))))) (fun _ v _ => (intOf v).toNat)
        case atStart => exact ⟨T, 0, by omega, rfl, HB1.out, HO1.out⟩
        case round =>
          obtain ⟨r, j, hrj, rfl, hb2, ho2⟩ := hrel
          obtain ⟨z0, z1, z2⟩ := HBx.out _ hb2
          have hat2 : kt.LnAt wr b (off + k * 7) (ls k) := by
            rcases (HL0.out.keep (w' := wr) (by rw [hs0]; exact hb2)).at' with h | ⟨b', off', e, h⟩
            · omega
            · injection e with e
              injection e with e1 e2 e3
              subst e1 e2
              exact h k hlt
          rw [HX.out] at hat2
          obtain ⟨l0, l1, l2, l3, l4, l5, l6⟩ := hat2
          dsimp only at l0 l1 l2 l3 l4 l5 l6
          have HB2 := bl.hid hb2
          have HO2 := bl.hid ho2
          have hsz2 := hb2.size
          have hrT : r ≤ 1060 := by omega
          clear hb2 ho2
          by_cases hr0 : 0 < r
          · have HNw2 := bl.hid (World.news_of_block (heap_alloc_new wr (.cells #[.int .i64 kd, .int .i64 lb, .int .i64 op, .int .i64 rd, .int .i64 rs1, .int .i64 rs2, .int .i64 im] 35)))
            have HOne2 : Hid (∀ u ∈ [Value.int .i64 kd, .int .i64 lb, .int .i64 op, .int .i64 rd, .int .i64 rs1, .int .i64 rs2, .int .i64 im], u.oneCell' = true) := bl.hid (by intro u hu; simp at hu; rcases hu with rfl | rfl | rfl | rfl | rfl | rfl | rfl <;> rfl)
            go_wp2_with (at_builtin; refine wpList_append_lies _ rfl _ _ 26 rfl (w.heap.size + 1) 35 zi (.agg #[.int .i64 0, .int .i64 0, .int .i64 0, .int .i64 0, .int .i64 0, .int .i64 0, .int .i64 0]) 7 56 Try.underlying26 HZi.out.1 HZi.out.2.1 HZi.out.2.2.1 HZi.out.2.2.2 rfl (by decide) _ (M + 1 + j) _ rfl (HO2.out.alloc _) ⟨wr.heap.size, 0, none⟩ 1 1 [.int .i64 kd, .int .i64 lb, .int .i64 op, .int .i64 rd, .int .i64 rs1, .int .i64 rs2, .int .i64 im] rfl rfl HNw2.out HOne2.out (by omega) ?c3 ?c4 ?c5 (wr.heap.size + 1) (World.size_alloc _ _) ?_)
            case c3 => unfold maxLen; omega
            case c4 => omega
            case c5 => first | omega | (rw [World.size_alloc]; omega)
            intro g2 cap2 w4 h1 h2 h3 h4
            have HB4 : Hid (Below (w.heap.size + 1) w0 w4) := bl.hid ((HB2.out.alloc (by omega) _).grown h2 (by rw [World.size_alloc]; omega) (fun j hj => (HO2.out.lt j hj).1))
            have HO4 : Hid (w4.ownsRow (w.heap.size + 1) 35 7 (.slice (some ⟨g2, 0, none⟩) (M + 1 + j + 1) cap2) (M + 1 + (j + 1)) (kt.lnFlat (al.linesL ls k T k ++ (ls k :: List.replicate (j + 1) (ls k))))) := bl.hid (by
              have e : al.linesL ls k T k ++ (ls k :: List.replicate (j + 1) (ls k)) = (al.linesL ls k T k ++ (ls k :: List.replicate j (ls k))) ++ [ls k] := by
                rw [List.replicate_succ']
                simp
              rw [e, kt.lnFlat_app, HX.out]
              rw [HX.out] at h1
              exact h1)
            clear h1 h2 h3 h4
            go_wp2
            exact ⟨⟨r - 1, j + 1, by omega, by go_num, HB4.out, HO4.out⟩, by simp [intOf]; omega⟩
          · obtain rfl : r = 0 := by omega
            obtain rfl : j = T := by omega
            have HO5 : Hid (wr.ownsRow (w.heap.size + 1) 35 7 u3 (al.linesL ls k j (k + 1)).length (kt.lnFlat (al.linesL ls k j (k + 1)))) := bl.hid (by
              have e : al.linesL ls k j (k + 1) = al.linesL ls k j k ++ (ls k :: List.replicate j (ls k)) := by
                show _ ++ (_ :: List.replicate (if (k : Int) = k then j else 0) _) = _
                rw [if_pos rfl]
              rw [e, List.length_append, HM.out]
              have := HO2.out
              rw [Nat.add_assoc] at this
              simpa [Nat.add_comm] using this)
            go_wp2
            exact ⟨⟨k + 1, by omega, by go_num, HB2.out, HO5.out⟩, by simp [intOf]; omega⟩
      · have hkp1 : ((k : Int) == p) = false := by simpa using hkp
        refine wp_loop_rounds 1 ?_
        rw [rounds_succ]
        have HO5 : Hid (w1.ownsRow (w.heap.size + 1) 35 7 (.slice (some ⟨g, 0, none⟩) (M + 1) cap) (al.linesL ls p T (k + 1)).length (kt.lnFlat (al.linesL ls p T (k + 1)))) := bl.hid (by
          have e : al.linesL ls p T (k + 1) = al.linesL ls p T k ++ (ls k :: List.replicate 0 (ls k)) := by
            show _ ++ (_ :: List.replicate (if (k : Int) = p then T else 0) _) = _
            rw [if_neg hkp]
          rw [e, List.length_append, HM.out]
          exact HO1.out)
        clear hkp
        go_wp2
        exact ⟨⟨k + 1, by omega, by go_num, HB1.out, HO5.out⟩, by simp [intOf]; omega⟩
    · obtain rfl : k = n := by omega
      have HE : Hid (ListPost (al.linesL ls p T k) w (.returned u3) wr) := bl.hid ⟨u3, rfl, own_base HO.out (by omega), HB0.out.trans (HB.out.mono (by omega))⟩
      go_wp2
      go_ret
      exact HE.out
end Go.Proofs.Ytbcflhpaafpndaa
