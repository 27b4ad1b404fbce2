/- AsmShort: few lines are as many words as there are lines that are no labels; lines behind others leave these as they are. -/
import Derived.Test.YtbcflhpaafpndaaAsShortP
import Derived.Test.YtbcflhpaafpndaaAsList
import Derived.Test.YtbcflhpaafpndaaAsAwake2
import Derived.Test.YtbcflhpaafpndaaAsSameW
namespace Go.Proofs.Ytbcflhpaafpndaa
open Go.RowKit
set_option linter.unusedVariables false
namespace al
open kt
/-- the i-th word -/
def wAt (L : List In5) (i : Nat) : Int := match L[i]? with | some x => enc5 x | none => 0
theorem words_at (L : List In5) (i : Nat) (h : i < L.length) : (wordsV L)[i]? = some (.int .u32 (wAt L i)) := by
  unfold wordsV wAt
  rw [List.getElem?_map, List.getElem?_eq_getElem h]
  rfl
theorem wAt_app (A B : List In5) (i : Nat) (h : i < A.length) : wAt (A ++ B) i = wAt A i := by
  unfold wAt
  rw [List.getElem?_append_left h]
end al
/-- words of its own, read -/
theorem own_words {w : World} {base : Nat} {v : Value} {L : List kt.In5} (h : w.ownsRow base 32 1 v L.length (al.wordsV L)) :
    ∃ a cap, v = .slice a L.length cap ∧ L.length ≤ cap ∧ NumsAt .u32 w a L.length (al.wAt L) := by
  rcases h.2 with ⟨rfl, h0⟩ | ⟨g, cap, cur, h1, h2, h3, h4, h5, h6, h7⟩
  · have h0 : L.length = 0 := h0
    exact ⟨none, 0, by rw [h0], by omega, .inl h0⟩
  · refine ⟨_, cap, h1, h4, .inr ⟨g, 0, rfl, fun i hi => ?_⟩⟩
    have hu := al.words_at L i hi
    rw [Nat.zero_add, cell_of_row _ _ _ _ _ _ h3]
    rw [← h7] at hu
    rw [List.getElem?_take] at hu
    split at hu
    · simpa using hu
    · cases hu
theorem NumsAt.below {K : IntKind} {w w' : World} {a : Option Addr} {n : Nat} {f : Nat → Int} (h : NumsAt K w a n f) (hb : Below w.heap.size w w') : NumsAt K w' a n f := by
  rcases h with h | ⟨b, off, e, h⟩
  · exact .inl h
  · exact .inr ⟨b, off, e, fun i hi => (World.cell?_of_block (w := w) (a := ⟨b, off + i, none⟩) (hb.block _ (block_lt_of_cell (h i hi)))).trans (h i hi)⟩
theorem NumsAt.le {K : IntKind} {w : World} {a : Option Addr} {n m : Nat} {f g : Nat → Int} (h : NumsAt K w a n f) (hm : m ≤ n) (hg : ∀ i, i < m → g i = f i) : NumsAt K w a m g := by
  rcases h with h | ⟨b, off, e, h⟩
  · exact .inl (by omega)
  · exact .inr ⟨b, off, e, fun i hi => by rw [hg i hi]; exact h i (by omega)⟩
theorem kt.Lines.le {w : World} {a : Option Addr} {n m : Nat} {ls : Nat → kt.Ln} (h : kt.Lines w a n ls) (hm : m ≤ n) : kt.Lines w a m ls := by
  refine ⟨fun i hi => h.ok i (by omega), Nat.le_trans (Nat.mul_le_mul_right _ hm) h.small, ?_⟩
  rcases h.at' with h0 | ⟨b, off, e, hc⟩
  · exact .inl (by omega)
  · exact .inr ⟨b, off, e, fun i hi => hc i (by omega)⟩
set_option maxRecDepth 100000 in
set_option maxHeartbeats 1600000 in
theorem short_any (a : Option Addr) (n c : Nat) (ls : Nat → kt.Ln) (first : Int) (w : World) (hl : n ≤ 40 → kt.Lines w a n ls) (hc : n ≤ c) (hc2 : c ≤ 9223372036854775807) (hf : kt.i64ok first) :
    Calls Try.prog 5 #[.slice a n c, .int .i64 first] w fun e w' => e = .returned (.bool true) ∧ Below w.heap.size w w' := by
  have HL := bl.hid hl
  have hsm : n ≤ 9223372036854775807 := by omega
  have HAw := bl.hid (awake_any w)
  clear hl
  go_enter Try.func5, Try.ntmps5
  go_wp2_with fail
  refine HAw.out.mono ?_
  rintro e w1 ⟨rfl, hb1⟩
  have HB1 := bl.hid hb1
  have s1 := hb1.size
  clear hb1
  by_cases hbig : (n : Int) > 40
  · go_wp2
    go_ret
    exact ⟨rfl, HB1.out⟩
  have hn : n ≤ 40 := by omega
  have HL : Hid (kt.Lines w a n ls) := bl.hid (HL.out hn)
  have HA := bl.hid (assemble_any a n c ls w1 (HL.out.keep HB1.out))
  go_wp2_with fail
  refine HA.out.mono ?_
  rintro e w2 ⟨hb2, hbad, hgood⟩
  have HB2 : Hid (Below w.heap.size w w2) := bl.hid (HB1.out.trans (hb2.mono s1))
  have s2 := HB2.out.size
  have HB12 := bl.hid hb2
  clear hb2 HA
  obtain ⟨q, hq⟩ : ∃ q, al.check ls n = q := ⟨_, rfl⟩
  rw [hq] at hbad hgood
  by_cases h0 : q = 0
  rotate_left
  · obtain rfl := hbad h0
    have hq0 : (q == 0) = false := by simpa using h0
    clear hbad hgood hq h0
    go_wp2
    go_ret
    exact ⟨rfl, HB2.out⟩
  subst h0
  obtain ⟨base, pv, rfl, hbs, hown⟩ := hgood rfl
  clear hbad hgood
  obtain ⟨L, hL⟩ : ∃ L, al.inss ls n (al.farE ls n) n = L := ⟨_, rfl⟩
  rw [hL] at hown
  obtain ⟨ga, cap, rfl, hcap, hnums⟩ := own_words hown
  have hlen : (L.length : Int) = al.place ls al.no n := by rw [← hL, al.inss_len, al.farE_few ls n (by omega)]
  have hlb := al.inss_two ls n (al.farE ls n) n
  rw [hL] at hlb
  have HNu := bl.hid hnums
  have HLn := bl.hid hlen
  have HLE := bl.hid hL
  have HQ := bl.hid hq
  have HP := bl.hid (fun w => pick_val first ((n : Int) + 1) w (by omega) (by omega) hf.1 hf.2)
  have hpb := al.pick_bd first ((n : Int) + 1) (by omega)
  obtain ⟨p, hp⟩ : ∃ p : Nat, al.pickV first ((n : Int) + 1) = p := ⟨(al.pickV first ((n : Int) + 1)).toNat, by omega⟩
  rw [hp] at HP hpb
  have hpn : p ≤ n := by omega
  clear hown hnums hlen hL hq hp hpb hf
  go_wp2
  go_loopw [8, 9] (fun u v wr => ∃ k : Nat, k ≤ n ∧ v = .int .i64 k ∧ u = .int .i64 (al.place ls al.no k) ∧ wr = w2) (fun _ v _ => n - (intOf v).toNat)
  case atStart => exact ⟨0, by omega, rfl, rfl, rfl⟩
  case round =>
    obtain ⟨k, hk, rfl, rfl, rfl⟩ := hrel
    by_cases hlt : k < n
    · have hat : ∃ b off, a = some ⟨b, off, none⟩ ∧ kt.LnAt wr b (off + k * 7) (ls k) := by
        rcases (HL.out.keep HB2.out).at' with h | ⟨b, off, e, h⟩
        · omega
        · exact ⟨b, off, e, h k hlt⟩
      obtain ⟨b, off, rfl, hla⟩ := hat
      have l0 := hla.c0
      have hm1 := al.many_one ls k
      have hpb := al.place_bd ls al.no k
      obtain ⟨kd, hkd⟩ : ∃ kd, (ls k).kind = kd := ⟨_, rfl⟩
      obtain ⟨pk, hpk⟩ : ∃ pk, al.place ls al.no k = pk := ⟨_, rfl⟩
      rw [hkd] at l0 hm1
      rw [hpk] at hm1 hpb ⊢
      obtain ⟨hp0, hp1⟩ := hpb
      have hpk1 : pk ≤ 80 := by omega
      have HM1 := bl.hid hm1
      clear hla hm1 hkd hpk hp1
      by_cases h1 : kd = 1
      · subst h1
        have HM2 : Hid (al.place ls al.no (k + 1) = pk) := bl.hid (by rw [HM1.out, if_pos rfl])
        go_wp2
        exact ⟨⟨k + 1, by omega, by go_num, by rw [HM2.out], by first | trivial | rfl⟩, by simp [intOf]; omega⟩
      · have h1' : (kd == 1) = false := by simpa using h1
        have HM2 : Hid (al.place ls al.no (k + 1) = pk + 1) := bl.hid (by rw [HM1.out, if_neg h1])
        clear h1
        go_wp2
        exact ⟨⟨k + 1, by omega, by go_num, by rw [HM2.out], by first | trivial | rfl⟩, by simp [intOf]; omega⟩
    · obtain rfl : k = n := by omega
      rw [← HLn.out]
      go_wp2_with fail
      refine (HP.out _).mono ?_
      rintro e w3 ⟨rfl, rfl⟩
      have hL2 := (HL.out.keep HB2.out).le hpn
      have HA2 := bl.hid (assemble_any a p c ls wr hL2)
      clear hL2
      go_wp2_with fail
      refine HA2.out.mono ?_
      rintro e w3 ⟨hb3, hbad, hgood⟩
      have HB3 : Hid (Below w.heap.size w w3) := bl.hid (HB2.out.trans (hb3.mono s2))
      have HNu3 := bl.hid (HNu.out.below hb3)
      have hq2 := al.check_first ls k p HQ.out hpn
      clear hb3 HA2
      rcases hq2 with hq2 | hq2
      · obtain ⟨base2, pv2, rfl, hbs2, hown2⟩ := hgood hq2
        obtain ⟨t, ht⟩ := al.words_first ls k p HQ.out hq2 hpn (by omega)
        rw [HLE.out] at ht
        obtain ⟨L2, hL2⟩ : ∃ L2, al.inss ls p (al.farE ls p) p = L2 := ⟨_, rfl⟩
        rw [hL2] at hown2 ht
        obtain ⟨ga2, cap2, rfl, hcap2, hnums2⟩ := own_words hown2
        have hle : L2.length ≤ L.length := by rw [ht, List.length_append]; omega
        have HS : Hid (Calls Try.prog 23 #[.slice ga L2.length cap, .slice ga2 L2.length cap2] w3 fun e w' => e = .returned (.bool true) ∧ ∃ q, w' = w3.drewN q) := bl.hid (by
          have h1 : NumsAt .u32 w3 ga L2.length (al.wAt L2) := HNu3.out.le hle (fun i hi => by rw [ht, al.wAt_app _ _ _ hi])
          have := sameWords_any ga ga2 L2.length L2.length cap cap2 (al.wAt L2) (al.wAt L2) w3 (by omega) h1 hnums2
          rw [al.sameN_self, decide_eq_true rfl] at this
          exact this)
        clear hgood hbad hown2 ht hL2 hnums2 hq2
        go_wp2_with fail
        refine HS.out.mono ?_
        rintro e w4 ⟨rfl, q, rfl⟩
        go_wp2
        go_ret
        exact ⟨rfl, HB3.out.drewN' q⟩
      · obtain rfl := hbad (by rw [hq2]; simp)
        rw [hq2]
        clear hgood hbad hq2
        go_wp2
        go_ret
        exact ⟨rfl, HB3.out⟩
end Go.Proofs.Ytbcflhpaafpndaa
