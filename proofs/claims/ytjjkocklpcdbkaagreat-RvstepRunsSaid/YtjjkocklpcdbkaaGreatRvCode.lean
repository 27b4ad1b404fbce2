/- Encode and Decode of the program. -/
import Derived.Test.YtjjkocklpcdbkaaGreatRvAny
import Derived.Test.YtjjkocklpcdbkaaGreatGr1
namespace Go.Proofs.YtjjkocklpcdbkaaGreat
open Go.RowKit
set_option linter.unusedVariables false
set_option maxRecDepth 100000
namespace rv
/-- the word of any instruction; 0: it may not be -/
def encI (op rd rs1 rs2 im : Int) : Int := if chkI op rd rs1 rs2 im = 0 then wordK op.toNat rd rs1 rs2 im else 0
theorem chk_is (op rd rs1 rs2 im : Int) (h : chkI op rd rs1 rs2 im = 0) : 1 ≤ op ∧ op < 64 := by
  unfold chkI at h
  by_cases hi : is op = true
  · exact of_decide_eq_true hi
  · rw [if_neg hi] at h
    cases h
end rv
set_option maxHeartbeats 800000 in
theorem encode_any (op rd rs1 rs2 im : Int) (w : World) :
    Calls Tryz.prog 90 #[.agg #[.int .i64 op, .int .i64 rd, .int .i64 rs1, .int .i64 rs2, .int .i64 im]] w fun e w' => e = .returned (.tuple #[.int .u32 (rv.encI op rd rs1 rs2 im), .int .i64 (rv.chkI op rd rs1 rs2 im)]) ∧ Below w.heap.size w w' := by
  by_cases hc : rv.chkI op rd rs1 rs2 im = 0
  · obtain ⟨h1, h2⟩ := rv.chk_is _ _ _ _ _ hc
    obtain ⟨k, rfl⟩ : ∃ k : Nat, op = k := ⟨op.toNat, by omega⟩
    have HE : Hid (rv.encI k rd rs1 rs2 im = rv.wordK k rd rs1 rs2 im) := bl.hid (by unfold rv.encI; rw [if_pos hc, Int.toNat_natCast])
    have HC : Hid (∀ w, Calls Tryz.prog 94 #[.agg #[.int .i64 k, .int .i64 rd, .int .i64 rs1, .int .i64 rs2, .int .i64 im]] w fun e w' => e = .returned (.int .i64 0) ∧ Below w.heap.size w w') := bl.hid fun w => by
      have := check_any k rd rs1 rs2 im w
      rwa [hc] at this
    have hrow : rv.rowI k = rv.row k := by
      have : rv.is k = true := decide_eq_true ⟨h1, h2⟩
      simp [rv.rowI, this]
    have HO : Hid (∀ w, Calls Tryz.prog 109 #[.int .i64 k] w fun e w' => e = .returned (.tuple #[.agg (rv.cells (rv.row k)), .bool true]) ∧ Below w.heap.size w w') := bl.hid fun w => by
      have := of_any k w
      rwa [hrow, show rv.is k = true from decide_eq_true ⟨h1, h2⟩] at this
    have HWd := bl.hid (fun w => word_any k (by omega) (by omega) k rd rs1 rs2 im w)
    rw [hc]
    clear hc hrow
    obtain ⟨r, hr⟩ : ∃ r, rv.row k = r := ⟨_, rfl⟩
    rw [hr] at HWd HO
    have HR := bl.hid hr
    clear hr
    unfold rv.cells at HWd HO
    go_enter Tryz.func90, Tryz.ntmps90
    go_wp2_with fail
    refine (HC.out _).mono ?_
    rintro e w1 ⟨rfl, hb⟩
    obtain ⟨r0, hb1, hs1⟩ := one_box hb
    obtain ⟨c0, c1, c2, c3, c4⟩ := RvAt.of_box r0
    have R0 := bl.hid r0
    have HB1 := bl.hid hb1
    clear hb r0 hb1
    go_wp2_with fail
    refine (HO.out _).mono ?_
    rintro e w2 ⟨rfl, hb⟩
    have HX2 := bl.hid ((RvAt.of_box R0.out).keep hb)
    have HB2 := bl.hid (HB1.out.trans (hb.mono (by omega)))
    have hs2 : w.heap.size + 1 ≤ w2.heap.size := by have := hb.size; omega
    clear hb c0 c1 c2 c3 c4
    obtain ⟨c0, c1, c2, c3, c4⟩ := HX2.out
    have k0 : w.heap.size < w2.heap.size := by omega
    go_wp2_with fail
    refine (HWd.out _).mono ?_
    rintro e w3 ⟨rfl, hb⟩
    have HB3 := bl.hid ((HB2.out.alloc HB2.out.size _).trans (hb.mono (by rw [World.size_alloc]; omega)))
    clear hb c0 c1 c2 c3 c4
    go_wp2
    go_ret2
    exact ⟨by rw [HE.out]; rfl, HB3.out⟩
  · have HE : Hid (rv.encI op rd rs1 rs2 im = 0) := bl.hid (by unfold rv.encI; rw [if_neg hc])
    have HC := bl.hid (fun w => check_any op rd rs1 rs2 im w)
    obtain ⟨q, hq⟩ : ∃ q, rv.chkI op rd rs1 rs2 im = q := ⟨_, rfl⟩
    rw [hq] at HC hc ⊢
    clear hq
    have hc1 : (q != 0) = true := by simpa using hc
    clear hc
    go_enter Tryz.func90, Tryz.ntmps90
    go_wp2_with fail
    refine (HC.out _).mono ?_
    rintro e w1 ⟨rfl, hb⟩
    obtain ⟨r0, hb1, hs1⟩ := one_box hb
    have HB1 := bl.hid hb1
    clear hb r0 hb1
    go_wp2
    go_ret2
    exact ⟨by rw [HE.out]; rfl, HB1.out⟩
namespace rv
/-- is a word that of an operation -/
def hits (v : Int) (k : Nat) : Bool :=
  decide ((row k).a = bits .and .u32 v 127) && (!(sh k).b || decide ((row k).b = bits .and .u32 (v / 4096) 7)) && decide (chkI k (numsK k v 1) (numsK k v 2) (numsK k v 3) (numsK k v 4) = 0) && decide (wordK k (numsK k v 1) (numsK k v 2) (numsK k v 3) (numsK k v 4) = v)
/-- the first operation from k on that has the word; 64: none has -/
def find (v : Int) : Nat → Nat → Nat
  | 0, k => k
  | n + 1, k => if hits v k then k else find v n (k + 1)
/-- the operation of a word; 64: none -/
def opOf (v : Int) : Nat := find v 63 1
end rv
namespace rv
theorem find_spec (v : Int) : ∀ n k, (find v n k = k + n ∧ ∀ i, k ≤ i → i < k + n → hits v i = false) ∨ (k ≤ find v n k ∧ find v n k < k + n ∧ hits v (find v n k) = true ∧ ∀ i, k ≤ i → i < find v n k → hits v i = false)
  | 0, k => Or.inl ⟨rfl, fun i a b => by omega⟩
  | n + 1, k => by
    unfold find
    by_cases h : hits v k = true
    · rw [if_pos h]
      exact Or.inr ⟨Nat.le_refl _, by omega, h, fun i a b => by omega⟩
    · rw [if_neg h]
      have h : hits v k = false := by simpa using h
      rcases find_spec v n (k + 1) with ⟨a, b⟩ | ⟨a, b, c, d⟩
      · refine Or.inl ⟨by omega, fun i p q => ?_⟩
        by_cases e : i = k
        · rw [e]; exact h
        · exact b i (by omega) (by omega)
      · refine Or.inr ⟨by omega, by omega, c, fun i p q => ?_⟩
        by_cases e : i = k
        · rw [e]; exact h
        · exact d i (by omega) q
theorem opOf_eq (v : Int) (k : Nat) (h1 : 1 ≤ k) (h2 : k < 64) (h : hits v k = true) (hb : ∀ i, 1 ≤ i → i < k → hits v i = false) : opOf v = k := by
  unfold opOf
  rcases find_spec v 63 1 with ⟨a, b⟩ | ⟨a, b, c, d⟩
  · have := b k h1 (by omega)
    rw [h] at this
    cases this
  · generalize find v 63 1 = f at *
    by_cases h3 : f < k
    · have := hb f a h3
      rw [c] at this
      cases this
    · by_cases h4 : k < f
      · have := d k h1 h4
        rw [h] at this
        cases this
      · omega
theorem opOf_none (v : Int) (hb : ∀ i, 1 ≤ i → i < 64 → hits v i = false) : opOf v = 64 := by
  unfold opOf
  rcases find_spec v 63 1 with ⟨a, b⟩ | ⟨a, b, c, d⟩
  · omega
  · have := hb _ a (by omega)
    rw [c] at this
    cases this
theorem opOf_hits (v : Int) : (opOf v = 64 ∧ ∀ i, 1 ≤ i → i < 64 → hits v i = false) ∨ (1 ≤ opOf v ∧ opOf v < 64 ∧ hits v (opOf v) = true) := by
  unfold opOf
  rcases find_spec v 63 1 with ⟨a, b⟩ | ⟨a, b, c, d⟩
  · exact Or.inl ⟨by omega, fun i p q => b i p (by omega)⟩
  · exact Or.inr ⟨a, by omega, c⟩
/-- the instruction of a word, and why it is none -/
def decRow (v : Int) : Array Value := if opOf v < 64 then readRow (opOf v) (numsK (opOf v) v) else readRow 0 (fun _ => 0)
def decE (v : Int) : Int := if opOf v < 64 then 0 else 16
end rv
set_option maxRecDepth 100000 in
set_option maxHeartbeats 3200000 in
theorem decode_any (v : Int) (v0 : 0 ≤ v) (v1 : v < 4294967296) (w : World) :
    Calls Tryz.prog 66 #[.int .u32 v] w fun e w' => e = .returned (.tuple #[.agg (rv.decRow v), .int .i64 (rv.decE v)]) ∧ Below w.heap.size w w' := by
  obtain ⟨R, T⟩ := tab
  have HT := bl.hid T
  clear T
  go_enter Tryz.func66, Tryz.ntmps66
  go_wp2_with fail
  refine (HT.out.call _).mono ?_
  rintro e w1 ⟨rfl, hb⟩
  obtain ⟨r0, hb1, hs1⟩ := one_box hb
  have HR0 := bl.hid r0
  have HB1 := bl.hid hb1
  clear hb r0 hb1
  go_wp2
  go_loopw [8] (fun x wr => ∃ k : Nat, k ≤ 64 ∧ x = .int .i64 k ∧ (∀ i, 1 ≤ i → i < k → rv.hits v i = false) ∧ Below (w.heap.size + 1) w1 wr) (fun x _ => 64 - (intOf x).toNat)
  case atStart => exact ⟨0, by omega, rfl, fun i a b => by omega, Below.refl _ _⟩
  case round =>
    obtain ⟨k, hk, rfl, hno, hbw⟩ := hrel
    have hg0 := hbw.block w.heap.size (by omega)
    rw [HR0.out] at hg0
    have HG0 := bl.hid hg0
    have HNo := bl.hid hno
    have HBW := bl.hid hbw
    have hsw := hbw.size
    clear hg0 hno hbw
    by_cases hlt : k < 64
    · obtain ⟨r, hr⟩ : ∃ r, rv.row k = r := ⟨_, rfl⟩
      have hidx := rows_index HT.out k hlt
      rw [hr] at hidx
      unfold rv.cells at hidx
      have HR := bl.hid hr
      clear hr
      have hB0 : Hid (Below (w.heap.size + 1) w1 wr) := HBW
      by_cases hk0 : k = 0
      · subst hk0
        have h0 : (Instr.index 131 (.agg R) (.int .i64 0)).run Tryz.prog wr = _ := hidx wr
        clear hidx
        go_wp2
        exact ⟨⟨1, by omega, by go_num, fun i a b => by omega, HBW.out.alloc (by omega) _⟩, by simp [intOf]⟩
      · obtain ⟨h1, h2⟩ : 1 ≤ k ∧ k < 64 := by omega
        have HIdx := bl.hid (hidx wr)
        have hk00 : ((k : Int) == 0) = false := by simpa using hk0
        clear hidx hk0
        have hi := HIdx.out
        have HNext : Hid (rv.hits v k = false → ∀ i, 1 ≤ i → i < k + 1 → rv.hits v i = false) := bl.hid fun hh i p q => by
          by_cases e : i = k
          · rw [e]; exact hh
          · exact HNo.out i p (by omega)
        by_cases ha : r.a = bits .and .u32 v 127
        · have hna : (r.a != bits .and .u32 v 127) = false := by simpa using ha
          have HA := bl.hid ha
          clear ha
          have HSh := bl.hid (fun w => shaped_of k h2 h1 w)
          have hrf : (rv.row k).form = r.form := by rw [HR.out]
          rw [hrf] at HSh
          clear hrf
          obtain ⟨s, hs⟩ : ∃ s, rv.sh k = s := ⟨_, rfl⟩
          rw [hs] at HSh
          have HS := bl.hid hs
          clear hs
          go_wp2_with fail
          refine (HSh.out _).mono ?_
          rintro e w2 ⟨ad, F, hF, rfl, hf, hb⟩
          obtain ⟨r0, hb1, hs2⟩ := one_box hb
          clear hF hf hb
          have R0 := bl.hid r0
          have HB2 : Hid (Below (w.heap.size + 1) w1 w2) := bl.hid (HBW.out.trans (hb1.mono (by omega)))
          have hs3 : wr.heap.size < w2.heap.size := by omega
          have c0 : w2.cell? ⟨wr.heap.size, 0, none⟩ = some (.string r.name) := (cell_of_row _ _ _ _ _ _ r0).trans rfl
          have c1 : w2.cell? ⟨wr.heap.size, 1, none⟩ = some (.string r.form) := (cell_of_row _ _ _ _ _ _ r0).trans rfl
          have c2 : w2.cell? ⟨wr.heap.size, 2, none⟩ = some (.int .u32 r.a) := (cell_of_row _ _ _ _ _ _ r0).trans rfl
          have c3 : w2.cell? ⟨wr.heap.size, 3, none⟩ = some (.int .u32 r.b) := (cell_of_row _ _ _ _ _ _ r0).trans rfl
          have c4 : w2.cell? ⟨wr.heap.size, 4, none⟩ = some (.int .u32 r.c) := (cell_of_row _ _ _ _ _ _ r0).trans rfl
          clear r0 hb1
          by_cases hsb : s.b = true ∧ r.b ≠ bits .and .u32 (v / 4096) 7
          · obtain ⟨hsb, hnb⟩ := hsb
            have hnb2 : (r.b != bits .and .u32 (v / 4096) 7) = true := by simpa using hnb
            have HN := bl.hid (HNext.out (by
              unfold rv.hits
              rw [HS.out, HR.out, hsb, decide_eq_false hnb]
              simp))
            clear hnb
            have hfb := shape_b
            go_wp2
            clear hfb
            exact ⟨⟨k + 1, by omega, by go_num, HN.out, HB2.out⟩, by simp [intOf]; omega⟩
          · have HMid : Hid (∀ x y z u : Int, rv.numsK k v 1 = x → rv.numsK k v 2 = y → rv.numsK k v 3 = z → rv.numsK k v 4 = u → rv.hits v k = (decide (rv.chkI k x y z u = 0) && decide (rv.wordK k x y z u = v))) := bl.hid (by
              rintro x y z u rfl rfl rfl rfl
              unfold rv.hits
              rw [HS.out, HR.out, decide_eq_true HA.out]
              have : (!s.b || decide (r.b = bits .and .u32 (v / 4096) 7)) = true := by
                cases hq : s.b
                · rfl
                · have : r.b = bits .and .u32 (v / 4096) 7 := Classical.byContradiction fun hx => hsb ⟨hq, hx⟩
                  rw [decide_eq_true this]
                  rfl
              rw [this]
              simp)
            have hfb := shape_b
            have hcont : s.b = false ∨ (s.b = true ∧ (r.b != bits .and .u32 (v / 4096) 7) = false) := by
              cases hq : s.b
              · exact Or.inl rfl
              · have : r.b = bits .and .u32 (v / 4096) 7 := Classical.byContradiction fun hx => hsb ⟨hq, hx⟩
                exact Or.inr ⟨rfl, by simpa using this⟩
            clear hsb
            have HRead := bl.hid (fun w => read_any k h2 h1 k v v0 v1 w)
            rw [HR.out] at HRead
            unfold rv.cells readRow at HRead
            have HChk := bl.hid (fun x y z u w => check_any k x y z u w)
            have HWd := bl.hid (fun x y z u w => word_any k h2 h1 k x y z u w)
            rw [HR.out] at HWd
            unfold rv.cells at HWd
            obtain ⟨x, hx⟩ : ∃ x, rv.numsK k v 1 = x := ⟨_, rfl⟩
            obtain ⟨y, hy⟩ : ∃ x, rv.numsK k v 2 = x := ⟨_, rfl⟩
            obtain ⟨z, hz⟩ : ∃ x, rv.numsK k v 3 = x := ⟨_, rfl⟩
            obtain ⟨u, hu⟩ : ∃ x, rv.numsK k v 4 = x := ⟨_, rfl⟩
            rw [hx, hy, hz, hu] at HRead
            have HH := bl.hid (HMid.out x y z u hx hy hz hu)
            have HN4 := bl.hid (And.intro hx (And.intro hy (And.intro hz hu)))
            clear hx hy hz hu HMid
            obtain ⟨q, hq⟩ : ∃ q, rv.chkI k x y z u = q := ⟨_, rfl⟩
            have HC := bl.hid (HChk.out x y z u)
            have HW := bl.hid (HWd.out x y z u)
            obtain ⟨g, hg⟩ : ∃ g, rv.wordK k x y z u = g := ⟨_, rfl⟩
            have HH2 := HH.out
            rw [hq, hg] at HH2
            rw [hq] at HC
            rw [hg] at HW
            have HH3 := bl.hid HH2
            clear hq hg HChk HWd HH HH2
            rcases hcont with hcb | ⟨hcb, hcn⟩
            all_goals
              go_wp2_with fail
              refine (HRead.out _).mono ?_
              rintro e w3 ⟨rfl, hb⟩
              clear hfb c0 c1 c2 c3 c4
              have R3 := bl.hid ((hb.block wr.heap.size hs3).trans R0.out)
              have hs4 : w2.heap.size ≤ w3.heap.size := hb.size
              have HB3 : Hid (Below (w.heap.size + 1) w1 w3) := bl.hid (HB2.out.trans (hb.mono (by omega)))
              clear hb
              go_wp2_with fail
              refine (HC.out _).mono ?_
              rintro e w4 ⟨rfl, hb⟩
              obtain ⟨x4, hb4, hs5⟩ := one_box hb
              have hrow4 : w4.heap[wr.heap.size]? = w3.heap[wr.heap.size]? := by rw [hb.block _ (by rw [World.size_alloc]; omega), heap_alloc_old _ _ (by omega)]
              rw [R3.out] at hrow4
              have R4 := bl.hid hrow4
              have X4 := bl.hid x4
              have HB4 : Hid (Below (w.heap.size + 1) w1 w4) := bl.hid (HB3.out.trans (hb4.mono (by omega)))
              have l1 : wr.heap.size < w4.heap.size := by omega
              have l2 : w3.heap.size < w4.heap.size := by omega
              clear hb hb4 x4
              by_cases hq0 : q = 0
              · subst hq0
                have c0 : w4.cell? ⟨wr.heap.size, 0, none⟩ = some (.string r.name) := (cell_of_row _ _ _ _ _ _ R4.out).trans rfl
                have c1 : w4.cell? ⟨wr.heap.size, 1, none⟩ = some (.string r.form) := (cell_of_row _ _ _ _ _ _ R4.out).trans rfl
                have c2 : w4.cell? ⟨wr.heap.size, 2, none⟩ = some (.int .u32 r.a) := (cell_of_row _ _ _ _ _ _ R4.out).trans rfl
                have c3 : w4.cell? ⟨wr.heap.size, 3, none⟩ = some (.int .u32 r.b) := (cell_of_row _ _ _ _ _ _ R4.out).trans rfl
                have c4 : w4.cell? ⟨wr.heap.size, 4, none⟩ = some (.int .u32 r.c) := (cell_of_row _ _ _ _ _ _ R4.out).trans rfl
                obtain ⟨d0, d1, d2, d3, d4⟩ := RvAt.of_box X4.out
                clear hrow4
                go_wp2_with fail
                refine (HW.out _).mono ?_
                rintro e w5 ⟨rfl, hb⟩
                have X5 := bl.hid ((hb.block w3.heap.size l2).trans X4.out)
                have hg5 : w5.heap[w.heap.size]? = wr.heap[w.heap.size]? := by
                  have e1 := HB4.out.block w.heap.size (by omega)
                  have e2 := HBW.out.block w.heap.size (by omega)
                  rw [hb.block _ (by omega), e1, e2]
                rw [HG0.out] at hg5
                have HG5 := bl.hid hg5
                have hs6 : w4.heap.size ≤ w5.heap.size := hb.size
                have HB5 : Hid (Below (w.heap.size + 1) w1 w5) := bl.hid (HB4.out.trans (hb.mono (by omega)))
                have l5 : w3.heap.size < w5.heap.size := by omega
                have l6 : w.heap.size < w5.heap.size := by omega
                clear hb hg5 c0 c1 c2 c3 c4 d0 d1 d2 d3 d4
                by_cases hgv : g = v
                · have HO : Hid (rv.opOf v = k) := bl.hid (rv.opOf_eq v k h1 h2 (by rw [HH3.out]; simp [hgv]) HNo.out)
                  have hgv2 : (g == v) = true := by simpa using hgv
                  clear hgv
                  obtain ⟨d0, d1, d2, d3, d4⟩ := RvAt.of_box X5.out
                  go_wp2_with (refine wpList_store_row rfl 71 _ _ rfl w.heap.size #[.int .i64 k, .int .i64 x, .int .i64 y, .int .i64 z, .int .i64 u] rfl rfl 71 _ HG5.out rv_info rfl (rv_one _ _ _ _ _) ?_)
                  refine bodyPost_ret (kt.results_row_tmp rfl _ _ w.heap.size 71 _ (0, 0) _ rfl (setRow_heap _ _ _ _ _ _ HG5.out) Tryz.underlying71 rfl rv_info) rfl ?_
                  have hbe : Below w.heap.size w w5 := HB1.out.trans (HB5.out.mono (by omega))
                  refine ⟨?_, hbe.trans ⟨rfl, rfl, rfl, by simp, fun k hk => setRow_other _ _ _ _ (by omega)⟩⟩
                  unfold rv.decRow rv.decE
                  rw [HO.out, if_pos h2, if_pos h2]
                  unfold readRow
                  rw [HN4.out.1, HN4.out.2.1, HN4.out.2.2.1, HN4.out.2.2.2]
                  rfl
                · have HN := bl.hid (HNext.out (by rw [HH3.out]; simp [hgv]))
                  have hgv2 : (g == v) = false := by simpa using hgv
                  clear hgv
                  go_wp2
                  exact ⟨⟨k + 1, by omega, by go_num, HN.out, HB5.out⟩, by simp [intOf]; omega⟩
              · have HN := bl.hid (HNext.out (by rw [HH3.out]; simp [hq0]))
                have hq2 : (q == 0) = false := by simpa using hq0
                clear hq0 hrow4
                go_wp2
                exact ⟨⟨k + 1, by omega, by go_num, HN.out, HB4.out⟩, by simp [intOf]; omega⟩
        · have hna : (r.a != bits .and .u32 v 127) = true := by simpa using ha
          have HN := bl.hid (HNext.out (by
            unfold rv.hits
            rw [HR.out, decide_eq_false ha]
            simp))
          clear ha
          go_wp2
          exact ⟨⟨k + 1, by omega, by go_num, HN.out, HBW.out.alloc (by omega) _⟩, by simp [intOf]; omega⟩
    · obtain rfl : k = 64 := by omega
      have HN : Hid (rv.opOf v = 64) := bl.hid (rv.opOf_none v HNo.out)
      have HBE : Hid (Below w.heap.size w wr) := bl.hid (HB1.out.trans (HBW.out.mono (by omega)))
      go_wp2_with (refine wpList_store_row rfl 71 _ _ rfl w.heap.size #[.int .i64 0, .int .i64 0, .int .i64 0, .int .i64 0, .int .i64 0] rfl rfl 71 _ HG0.out rv_info rfl (rv_one _ _ _ _ _) ?_)
      refine bodyPost_ret (kt.results_row_tmp rfl _ _ w.heap.size 71 _ (0, 0) _ rfl (setRow_heap _ _ _ _ _ _ HG0.out) Tryz.underlying71 rfl rv_info) rfl ?_
      refine ⟨?_, HBE.out.trans ⟨rfl, rfl, rfl, by simp, fun k hk => setRow_other _ _ _ _ (by omega)⟩⟩
      unfold rv.decRow rv.decE
      rw [HN.out]
      rfl
end Go.Proofs.YtjjkocklpcdbkaaGreat
