/- What instructions do, in plain words; upper, jump, branch, call, walked. -/
import Derived.Test.YtjjkocklpcdbkaaGreatStMem
import Derived.Deep.QuietTactic
import Derived.BigQuiet
import Derived.Deep.RegionHeld3
import Derived.Deep.Cut
import Derived.Deep.RegionWith
namespace Go.Proofs.YtjjkocklpcdbkaaGreat
open Go.RowKit
set_option linter.unusedVariables false
set_option maxRecDepth 100000
namespace st
def S.nxt (s : S) : S := s.go (u64 (s.pc + 4))
/-- the signed number of a word -/
def sg (x : Int) : Int := if x < 9223372036854775808 then x else x - 18446744073709551616
def upV (i : In) (s : S) : Int := if i.op = 2 then u64 (u64 (u64 i.im * 4096) + s.pc) else u64 (u64 i.im * 4096)
def exUpper (i : In) (s : S) : S := (s.put i.rd (upV i s)).nxt
def jTo (i : In) (s : S) : Int := if i.op = 4 then u64 (s.rg i.rs1 + u64 i.im) / 2 * 2 else u64 (s.pc + u64 i.im)
def exJump (i : In) (s : S) : S := (s.put i.rd (u64 (s.pc + 4))).go (jTo i s)
/-- is a branch taken -/
def taken (op x y : Int) : Bool :=
  if op = 5 then decide (x = y) else if op = 6 then decide (x ≠ y) else if op = 7 then decide (sg x < sg y) else if op = 8 then decide (sg y ≤ sg x) else if op = 9 then decide (x < y) else decide (y ≤ x)
def exBranch (i : In) (s : S) : S := if taken i.op (s.rg i.rs1) (s.rg i.rs2) then s.go (u64 (s.pc + u64 i.im)) else s.nxt
def atOf (i : In) (s : S) : Int := u64 (s.rg i.rs1 + u64 i.im)
def exLoad (i : In) (s : S) : Int × S :=
  if pl.ldE s.l (atOf i s) (szN i.op) ≠ 0 then (5, s)
  else (0, (s.put i.rd (if szS i.op then wd.sx (pl.ldV s.l (atOf i s) (szN i.op)) (szN i.op) else pl.ldV s.l (atOf i s) (szN i.op))).nxt)
def exStore (i : In) (s : S) : Int × S :=
  if pl.ldE s.l (atOf i s) (szN i.op) ≠ 0 then (5, s)
  else (0, ({ s with l := pl.stL s.l (atOf i s) (szN i.op) (s.rg i.rs2) } : S).nxt)
def prT (i : In) (s : S) : Int := if (pr i.op.toNat).2.2 then u64 i.im else s.rg i.rs2
def prV (i : In) (s : S) : Int := if (pr i.op.toNat).2.1 then wd.halfV (pr i.op.toNat).1 (s.rg i.rs1) (prT i s) else wd.doV (pr i.op.toNat).1 (s.rg i.rs1) (prT i s)
def exPair (i : In) (s : S) : S := (s.put i.rd (prV i s)).nxt
/-- how an instruction ends, and what it leaves -/
def exec (i : In) (s : S) : Int × S :=
  if i.op ≤ 2 then (0, exUpper i s) else if i.op ≤ 4 then (0, exJump i s) else if i.op ≤ 10 then (0, exBranch i s) else if i.op ≤ 17 then exLoad i s else if i.op ≤ 21 then exStore i s else if i.op ≤ 62 then (0, exPair i s) else (1, s)
end st
theorem wrap_u (x : Int) : IntKind.u64.wrap x = st.u64 x := IntKind.wrap_u64 x
theorem u_same {x : Int} (h0 : 0 ≤ x) (h1 : x < 18446744073709551616) : st.u64 x = x := Int.emod_eq_of_lt h0 h1
/-- a turn behind what makes memory alone -/
theorem TurnPost.behind {P : st.Pl} {code : Nat → st.Told} {v : Value} {s : st.S} {w w1 : World} {e : Ending} {w' : World} (h : TurnPost P code v s w1 e w') (hb : Below w.heap.size w w1) : TurnPost P code v s w e w' := ⟨h.1, h.2.1, (But2.of_below hb).trans h.2.2⟩
theorem TurnPost.behind2 {P : st.Pl} {code : Nat → st.Told} {v : Value} {s : st.S} {w w1 : World} {e : Ending} {w' : World} (h : TurnPost P code v s w1 e w') (hb : But2 P.p P.g w w1) : TurnPost P code v s w e w' := ⟨h.1, h.2.1, hb.trans h.2.2⟩
theorem sg_wrap (x : Int) (h0 : 0 ≤ x) (h1 : x < 18446744073709551616) : IntKind.i64.wrap x = st.sg x := by
  rw [IntKind.wrap_i64]
  unfold st.sg
  split <;> omega
theorem sg_wrap64 (x : Int) (h0 : 0 ≤ x) (h1 : x < 18446744073709551616) : wrap64 x = st.sg x := by
  unfold st.sg wrap64
  split <;> omega
theorem IsMach.heapEq {w w' : World} {P : st.Pl} {code : Nat → st.Told} {s : st.S} (h : IsMach w P code s) (hh : w'.heap = w.heap) : IsMach w' P code s :=
  ⟨by rw [hh]; exact h.row, h.mem.kept (by rw [hh]) (by rw [hh]), h.deeds.kept (by rw [hh]), h.told.kept (fun _ _ _ _ => by rw [hh]), h.ok, h.ins, h.small⟩
theorem IsMach.drewN {w : World} {P : st.Pl} {code : Nat → st.Told} {s : st.S} (h : IsMach w P code s) (m : Nat) : IsMach (w.drewN m) P code s := h.keep ((Below.refl _ _).drewN' m)
theorem and_even (a : Nat) (h : a < 2 ^ 64) : a &&& (18446744073709551615 - 1) = a / 2 * 2 := by
  apply Nat.eq_of_testBit_eq
  intro i
  rw [Nat.testBit_and]
  cases i with
  | zero => simp [Nat.testBit_zero]
  | succ i =>
    rw [Nat.testBit_succ, Nat.testBit_succ, Nat.testBit_succ, show (18446744073709551615 - 1) / 2 = 2 ^ 63 - 1 by decide, Nat.testBit_two_pow_sub_one, Nat.mul_div_cancel _ (by decide : 0 < 2)]
    by_cases hi : i < 63
    · simp [hi]
    · have : (a / 2).testBit i = false := Nat.testBit_lt_two_pow (Nat.lt_of_lt_of_le (show a / 2 < 2 ^ 63 by omega) (Nat.pow_le_pow_right (by decide) (by omega)))
      rw [this]
      rfl
theorem clear0 (x : Int) (h0 : 0 ≤ x) (h1 : x < 18446744073709551616) : bits .andNot .u64 x 1 = x / 2 * 2 := by
  rw [u64_andNot x 1 h0 h1 (by decide) (by decide)]
  obtain ⟨a, rfl⟩ := Int.eq_ofNat_of_zero_le h0
  have := and_even a (by omega)
  rw [show (1 : Int).toNat = 1 from rfl, Int.toNat_natCast, this]
  omega
theorem next_any (w : World) (P : st.Pl) (code : Nat → st.Told) (s : st.S) (h : IsMach w P code s) :
    Calls Tryz.prog 101 #[.pointer (some ⟨P.p, 0, none⟩)] w (TurnPost P code (.int .i64 0) s.nxt w) := by
  have c := h.pcC
  have hpc := h.ok.pc
  have HG := bl.hid (goes_any w P code s (st.u64 (s.pc + 4)) h (st.u64_isU _))
  unfold st.isU at hpc
  unfold st.u64 at HG
  obtain ⟨hp0, hp1⟩ := hpc
  obtain ⟨pc, hpc⟩ : ∃ pc, s.pc = pc := ⟨_, rfl⟩
  have hn : s.nxt = s.go ((pc + 4) % 18446744073709551616) := by unfold st.S.nxt st.u64; rw [hpc]
  rw [hn]
  rw [hpc] at c HG hp0 hp1
  clear h hn hpc
  go_enter Tryz.func101, Tryz.ntmps101
  go_wp2_with fail
  refine HG.out.mono ?_
  rintro e w1 ⟨rfl, h1, h2⟩
  have H1 := bl.hid h1
  have H2 := bl.hid h2
  clear h1 h2
  go_wp2
  go_ret
  exact ⟨rfl, H1.out, H2.out⟩
theorem upper_any (w : World) (P : st.Pl) (code : Nat → st.Told) (s : st.S) (i : st.In) (h : IsMach w P code s) (hi : st.InOk i) :
    Calls Tryz.prog 83 #[.pointer (some ⟨P.p, 0, none⟩), .agg i.cells] w (TurnPost P code (.int .i64 0) (st.exUpper i s) w) := by
  obtain ⟨op, rd, rs1, rs2, im⟩ := i
  show Calls Tryz.prog 83 #[.pointer (some ⟨P.p, 0, none⟩), .agg #[.int .i64 op, .int .i64 rd, .int .i64 rs1, .int .i64 rs2, .int .i64 im]] w _
  have c := h.pcC
  have hl := h.lt
  have hpc := h.ok.pc
  have him := hi.im
  have hop := hi.op
  have hrd := hi.rd
  dsimp only at him hop hrd
  unfold st.isU at hpc
  obtain ⟨hp0, hp1⟩ := hpc
  have HB := bl.hid (h.keep (kt.below_row (w := w) (.cells #[.int .i64 op, .int .i64 rd, .int .i64 rs1, .int .i64 rs2, .int .i64 im] 71)))
  have HPu : Hid (∀ v, st.isU (IntKind.u64.wrap v) → Calls Tryz.prog 39 #[.pointer (some ⟨P.p, 0, none⟩), .int .i64 rd, .int .u64 (IntKind.u64.wrap v)] (w.alloc (.cells #[.int .i64 op, .int .i64 rd, .int .i64 rs1, .int .i64 rs2, .int .i64 im] 71)) (TurnPost P code (.tuple #[]) (s.put rd (IntKind.u64.wrap v)) (w.alloc (.cells #[.int .i64 op, .int .i64 rd, .int .i64 rs1, .int .i64 rs2, .int .i64 im] 71)))) := bl.hid (fun v hv => put_any _ P code s rd _ HB.out hrd hv)
  have HU : Hid (∀ v, st.isU (IntKind.u64.wrap v)) := bl.hid (fun v => by rw [wrap_u]; exact st.u64_isU _)
  have HBl : Hid (Below w.heap.size w (w.alloc (.cells #[.int .i64 op, .int .i64 rd, .int .i64 rs1, .int .i64 rs2, .int .i64 im] 71))) := bl.hid (kt.below_row _)
  obtain ⟨pc, hpc⟩ : ∃ pc, s.pc = pc := ⟨_, rfl⟩
  have HPc := bl.hid hpc
  rw [hpc] at c hp0 hp1
  clear h hi hpc
  by_cases h2 : op = 2
  · subst h2
    go_enter Tryz.func83, Tryz.ntmps83
    go_wp2_with fail
    refine (HPu.out _ (HU.out _)).mono ?_
    rintro e w1 ⟨rfl, h1, h2⟩
    have HN := bl.hid (next_any w1 P code _ h1)
    have H2 := bl.hid h2
    clear h1 h2
    go_wp2_with fail
    refine HN.out.mono ?_
    rintro e w2 h3
    obtain ⟨rfl, h4, h5⟩ := h3
    have HE : Hid (TurnPost P code (.int .i64 0) (st.exUpper ⟨2, rd, rs1, rs2, im⟩ s) w (.returned (.int .i64 0)) w2) := bl.hid ⟨rfl, by
      unfold st.exUpper st.upV
      rw [if_pos rfl, HPc.out]
      simp only [wrap_u] at h4
      exact h4, ((But2.of_below HBl.out).trans H2.out).trans h5⟩
    clear h4 h5
    go_wp2
    go_ret
    exact HE.out
  · have h2' : (op == 2) = false := by simpa using h2
    have HO := bl.hid h2
    clear h2
    go_enter Tryz.func83, Tryz.ntmps83
    go_wp2_with fail
    refine (HPu.out _ (HU.out _)).mono ?_
    rintro e w1 ⟨rfl, h1, h2⟩
    have HN := bl.hid (next_any w1 P code _ h1)
    have H2 := bl.hid h2
    clear h1 h2
    go_wp2_with fail
    refine HN.out.mono ?_
    rintro e w2 h3
    obtain ⟨rfl, h4, h5⟩ := h3
    have HE : Hid (TurnPost P code (.int .i64 0) (st.exUpper ⟨op, rd, rs1, rs2, im⟩ s) w (.returned (.int .i64 0)) w2) := bl.hid ⟨rfl, by
      unfold st.exUpper st.upV
      rw [if_neg HO.out]
      simp only [wrap_u] at h4
      exact h4, ((But2.of_below HBl.out).trans H2.out).trans h5⟩
    clear h4 h5
    go_wp2
    go_ret
    exact HE.out
theorem call_any (w : World) (P : st.Pl) (code : Nat → st.Told) (s : st.S) (i : st.In) (h : IsMach w P code s) :
    Calls Tryz.prog 85 #[.pointer (some ⟨P.p, 0, none⟩), .agg i.cells] w (TurnPost P code (.int .i64 1) s w) := by
  have HE : Hid (TurnPost P code (.int .i64 1) s w (.returned (.int .i64 1)) (w.alloc (.cells i.cells 71))) := bl.hid ⟨rfl, h.keep (kt.below_row _), But2.of_below (kt.below_row _)⟩
  clear h
  go_enter Tryz.func85, Tryz.ntmps85
  go_wp2
  go_ret
  exact HE.out
theorem jump_any (w : World) (P : st.Pl) (code : Nat → st.Told) (s : st.S) (i : st.In) (h : IsMach w P code s) (hi : st.InOk i) :
    Calls Tryz.prog 84 #[.pointer (some ⟨P.p, 0, none⟩), .agg i.cells] w (TurnPost P code (.int .i64 0) (st.exJump i s) w) := by
  obtain ⟨op, rd, rs1, rs2, im⟩ := i
  show Calls Tryz.prog 84 #[.pointer (some ⟨P.p, 0, none⟩), .agg #[.int .i64 op, .int .i64 rd, .int .i64 rs1, .int .i64 rs2, .int .i64 im]] w _
  have c := h.pcC
  have hl := h.lt
  have hpc := h.ok.pc
  have him := hi.im
  have hop := hi.op
  have hrd := hi.rd
  have hr1 := hi.rs1
  dsimp only at him hop hrd hr1
  obtain ⟨k1, hk1⟩ : ∃ k1 : Nat, rs1 = k1 := ⟨rs1.toNat, by omega⟩
  subst hk1
  have hk1 : k1 < 32 := by omega
  have cr := h.regC k1 hk1
  have hru := h.ok.r k1 hk1
  unfold st.isU at hpc hru
  obtain ⟨hp0, hp1⟩ := hpc
  obtain ⟨hr0, hr1'⟩ := hru
  have HM := bl.hid (h.keep (kt.below_row (w := w) (.cells #[.int .i64 op, .int .i64 rd, .int .i64 k1, .int .i64 rs2, .int .i64 im] 71)))
  have HBl : Hid (Below w.heap.size w (w.alloc (.cells #[.int .i64 op, .int .i64 rd, .int .i64 k1, .int .i64 rs2, .int .i64 im] 71))) := bl.hid (kt.below_row _)
  obtain ⟨pc, hpc⟩ : ∃ pc, s.pc = pc := ⟨_, rfl⟩
  obtain ⟨x, hx⟩ : ∃ x, s.r k1 = x := ⟨_, rfl⟩
  have HPc := bl.hid hpc
  have HX := bl.hid hx
  rw [hpc] at c hp0 hp1
  rw [hx] at cr hr0 hr1'
  have HRd := bl.hid hrd
  clear h hi hpc hx hr1
  have HGo : Hid (∀ w1 s1, IsMach w1 P code s1 → ∀ a, st.isU a → Calls Tryz.prog 102 #[.pointer (some ⟨P.p, 0, none⟩), .int .u64 a] w1 (TurnPost P code (.int .i64 0) (s1.go a) w1)) := bl.hid (fun w1 s1 h1 a ha => goes_any w1 P code s1 a h1 ha)
  have HPt : Hid (∀ w1, IsMach w1 P code s → ∀ v, st.isU v → Calls Tryz.prog 39 #[.pointer (some ⟨P.p, 0, none⟩), .int .i64 rd, .int .u64 v] w1 (TurnPost P code (.tuple #[]) (s.put rd v) w1)) := bl.hid (fun w1 h1 v hv => put_any w1 P code s rd v h1 HRd.out hv)
  have HU : Hid (∀ v, st.isU (IntKind.u64.wrap v)) := bl.hid (fun v => by rw [wrap_u]; exact st.u64_isU _)
  have HC : Hid (∀ v, st.isU v → st.isU (bits .andNot .u64 v 1)) := bl.hid (fun v hv => by rw [clear0 v hv.1 hv.2]; unfold st.isU at hv ⊢; omega)
  by_cases h4 : op = 4
  · subst h4
    go_enter Tryz.func84, Tryz.ntmps84
    go_wp2
    go_quiet (fail)
    go_wp2
    go_quiet (fail)
    go_wp2_with fail
    refine (HPt.out _ (HM.out.drewN _) _ (HU.out _)).mono ?_
    rintro e w1 ⟨rfl, h1, h2⟩
    have HG := bl.hid (HGo.out w1 _ h1)
    have H2 := bl.hid h2
    clear h1 h2
    go_wp2_with fail
    refine (HG.out _ (HC.out _ (HU.out _))).mono ?_
    rintro e w2 ⟨rfl, h4, h5⟩
    have HE : Hid (TurnPost P code (.int .i64 0) (st.exJump ⟨4, rd, k1, rs2, im⟩ s) w (.returned (.int .i64 0)) w2) := bl.hid ⟨rfl, by
      unfold st.exJump st.jTo st.S.rg
      rw [if_pos rfl]
      dsimp only
      rw [Int.toNat_natCast, HX.out, HPc.out]
      simp only [wrap_u, clear0 _ (st.u64_isU _).1 (st.u64_isU _).2] at h4
      exact h4, ((But2.of_below (HBl.out.drewN' _)).trans H2.out).trans h5⟩
    clear h4 h5
    go_wp2
    go_ret
    exact HE.out
  · have h4' : (op == 4) = false := by simpa using h4
    have HO := bl.hid h4
    clear h4
    go_enter Tryz.func84, Tryz.ntmps84
    go_wp2
    go_quiet (fail)
    go_wp2_with fail
    refine (HPt.out _ (HM.out.drewN _) _ (HU.out _)).mono ?_
    rintro e w1 ⟨rfl, h1, h2⟩
    have HG := bl.hid (HGo.out w1 _ h1)
    have H2 := bl.hid h2
    clear h1 h2
    go_wp2_with fail
    refine (HG.out _ (HU.out _)).mono ?_
    rintro e w2 ⟨rfl, h4, h5⟩
    have HE : Hid (TurnPost P code (.int .i64 0) (st.exJump ⟨op, rd, k1, rs2, im⟩ s) w (.returned (.int .i64 0)) w2) := bl.hid ⟨rfl, by
      unfold st.exJump st.jTo st.S.rg
      rw [if_neg HO.out]
      dsimp only
      rw [HPc.out]
      simp only [wrap_u] at h4
      exact h4, ((But2.of_below (HBl.out.drewN' _)).trans H2.out).trans h5⟩
    clear h4 h5
    go_wp2
    go_ret
    exact HE.out
set_option maxHeartbeats 3200000 in
theorem branch_any (w : World) (P : st.Pl) (code : Nat → st.Told) (s : st.S) (i : st.In) (h : IsMach w P code s) (hi : st.InOk i) (h5 : 5 ≤ i.op) (h10 : i.op ≤ 10) :
    Calls Tryz.prog 86 #[.pointer (some ⟨P.p, 0, none⟩), .agg i.cells] w (TurnPost P code (.int .i64 0) (st.exBranch i s) w) := by
  obtain ⟨op, rd, rs1, rs2, im⟩ := i
  show Calls Tryz.prog 86 #[.pointer (some ⟨P.p, 0, none⟩), .agg #[.int .i64 op, .int .i64 rd, .int .i64 rs1, .int .i64 rs2, .int .i64 im]] w _
  have c := h.pcC
  have hl := h.lt
  have hpc := h.ok.pc
  have him := hi.im
  have hr1 := hi.rs1
  have hr2 := hi.rs2
  dsimp only at him hr1 hr2 h5 h10
  obtain ⟨k1, hk1⟩ : ∃ k1 : Nat, rs1 = k1 := ⟨rs1.toNat, by omega⟩
  obtain ⟨k2, hk2⟩ : ∃ k2 : Nat, rs2 = k2 := ⟨rs2.toNat, by omega⟩
  subst hk1 hk2
  have hk1 : k1 < 32 := by omega
  have hk2 : k2 < 32 := by omega
  have cr := h.regC k1 hk1
  have cr2 := h.regC k2 hk2
  have hru := h.ok.r k1 hk1
  have hrv := h.ok.r k2 hk2
  unfold st.isU at hpc hru hrv
  obtain ⟨hp0, hp1⟩ := hpc
  obtain ⟨hx0, hx1⟩ := hru
  obtain ⟨hy0, hy1⟩ := hrv
  have HM := bl.hid (h.keep (kt.below_row (w := w) (.cells #[.int .i64 op, .int .i64 rd, .int .i64 k1, .int .i64 k2, .int .i64 im] 71)))
  have HBl : Hid (Below w.heap.size w (w.alloc (.cells #[.int .i64 op, .int .i64 rd, .int .i64 k1, .int .i64 k2, .int .i64 im] 71))) := bl.hid (kt.below_row _)
  obtain ⟨pc, hpc⟩ : ∃ pc, s.pc = pc := ⟨_, rfl⟩
  obtain ⟨x, hx⟩ : ∃ x, s.r k1 = x := ⟨_, rfl⟩
  obtain ⟨y, hy⟩ : ∃ y, s.r k2 = y := ⟨_, rfl⟩
  have HPc := bl.hid hpc
  rw [hpc] at c hp0 hp1
  rw [hx] at cr hx0 hx1
  rw [hy] at cr2 hy0 hy1
  have HGo : Hid (∀ w1, Below w.heap.size w w1 → IsMach w1 P code s → ∀ a, st.isU a → Calls Tryz.prog 102 #[.pointer (some ⟨P.p, 0, none⟩), .int .u64 a] w1 (TurnPost P code (.int .i64 0) (s.go a) w)) := bl.hid (fun w1 hb h1 a ha => (goes_any w1 P code s a h1 ha).mono (fun e w' q => q.behind hb))
  have HNx : Hid (∀ w1, Below w.heap.size w w1 → IsMach w1 P code s → Calls Tryz.prog 101 #[.pointer (some ⟨P.p, 0, none⟩)] w1 (TurnPost P code (.int .i64 0) s.nxt w)) := bl.hid (fun w1 hb h1 => (next_any w1 P code s h1).mono (fun e w' q => q.behind hb))
  have HU : Hid (∀ v, st.isU (IntKind.u64.wrap v)) := bl.hid (fun v => by rw [wrap_u]; exact st.u64_isU _)
  have HEx : Hid (st.exBranch ⟨op, rd, k1, k2, im⟩ s = if st.taken op x y then s.go (st.u64 (pc + st.u64 im)) else s.nxt) := bl.hid (by unfold st.exBranch st.S.rg; dsimp only; rw [Int.toNat_natCast, Int.toNat_natCast, hx, hy, hpc])
  rw [HEx.out]
  clear h hi hpc hx hy hr1 hr2 HEx
  obtain ⟨t, ht⟩ : ∃ t, st.taken op x y = t := ⟨_, rfl⟩
  rw [ht]
  have hop : op = 5 ∨ op = 6 ∨ op = 7 ∨ op = 8 ∨ op = 9 ∨ op = 10 := by omega
  clear h5 h10
  rcases hop with rfl | rfl | rfl | rfl | rfl | rfl
  · unfold st.taken at ht
    rw [if_pos rfl] at ht
    have ht : (x == y) = t := by rw [← ht]; by_cases h : x = y <;> simp [h]
    cases t
    · go_enter Tryz.func86, Tryz.ntmps86
      go_wp2
      go_quiet (fail)
      go_wp2_with fail
      refine (HNx.out _ (HBl.out.drewN' _) (HM.out.drewN _)).mono ?_
      rintro e w2 ⟨rfl, h4, h5⟩
      have HE : Hid (TurnPost P code (.int .i64 0) (if false = true then s.go (st.u64 (pc + st.u64 im)) else s.nxt) w (.returned (.int .i64 0)) w2) := bl.hid ⟨rfl, by rw [if_neg (by simp)]; exact h4, h5⟩
      clear h4 h5
      go_wp2
      go_ret
      exact HE.out
    · go_enter Tryz.func86, Tryz.ntmps86
      go_wp2
      go_quiet (fail)
      go_wp2
      go_region_with (first
        | (go_at_call 102; refine (HGo.out _ (HBl.out.drewN' _).drew (HM.out.heapEq rfl) _ (HU.out _)).mono ?_; rintro e w2 ⟨rfl, h4, h5⟩; have H4 := bl.hid h4; have H5 := bl.hid h5; clear h4 h5))
      all_goals
        have HE : Hid (TurnPost P code (.int .i64 0) (if true = true then s.go (st.u64 (pc + st.u64 im)) else s.nxt) w (.returned (.int .i64 0)) w2) := bl.hid ⟨rfl, by have := H4.out; simp only [wrap_u] at this; rw [if_pos rfl]; exact this, H5.out⟩
        go_wp2
        go_ret
        exact HE.out
  · unfold st.taken at ht
    rw [if_neg (by decide), if_pos rfl] at ht
    have ht : (x != y) = t := by rw [← ht]; by_cases h : x = y <;> simp [h]
    cases t
    · go_enter Tryz.func86, Tryz.ntmps86
      go_wp2
      go_quiet (fail)
      go_wp2_with fail
      refine (HNx.out _ (HBl.out.drewN' _) (HM.out.drewN _)).mono ?_
      rintro e w2 ⟨rfl, h4, h5⟩
      have HE : Hid (TurnPost P code (.int .i64 0) (if false = true then s.go (st.u64 (pc + st.u64 im)) else s.nxt) w (.returned (.int .i64 0)) w2) := bl.hid ⟨rfl, by rw [if_neg (by simp)]; exact h4, h5⟩
      clear h4 h5
      go_wp2
      go_ret
      exact HE.out
    · go_enter Tryz.func86, Tryz.ntmps86
      go_wp2
      go_quiet (fail)
      go_wp2
      go_region_with (first
        | (go_at_call 102; refine (HGo.out _ (HBl.out.drewN' _).drew (HM.out.heapEq rfl) _ (HU.out _)).mono ?_; rintro e w2 ⟨rfl, h4, h5⟩; have H4 := bl.hid h4; have H5 := bl.hid h5; clear h4 h5))
      all_goals
        have HE : Hid (TurnPost P code (.int .i64 0) (if true = true then s.go (st.u64 (pc + st.u64 im)) else s.nxt) w (.returned (.int .i64 0)) w2) := bl.hid ⟨rfl, by have := H4.out; simp only [wrap_u] at this; rw [if_pos rfl]; exact this, H5.out⟩
        go_wp2
        go_ret
        exact HE.out
  · unfold st.taken at ht
    rw [if_neg (by decide), if_neg (by decide), if_pos rfl] at ht
    have ht : decide (wrap64 x < wrap64 y) = t := by rw [sg_wrap64 x hx0 hx1, sg_wrap64 y hy0 hy1]; exact ht
    cases t
    · go_enter Tryz.func86, Tryz.ntmps86
      go_wp2
      go_quiet (fail)
      go_wp2_with fail
      refine (HNx.out _ (HBl.out.drewN' _) (HM.out.drewN _)).mono ?_
      rintro e w2 ⟨rfl, h4, h5⟩
      have HE : Hid (TurnPost P code (.int .i64 0) (if false = true then s.go (st.u64 (pc + st.u64 im)) else s.nxt) w (.returned (.int .i64 0)) w2) := bl.hid ⟨rfl, by rw [if_neg (by simp)]; exact h4, h5⟩
      clear h4 h5
      go_wp2
      go_ret
      exact HE.out
    · go_enter Tryz.func86, Tryz.ntmps86
      go_wp2
      go_quiet (fail)
      go_wp2
      go_region_with (first
        | (go_at_call 102; refine (HGo.out _ (HBl.out.drewN' _).drew (HM.out.heapEq rfl) _ (HU.out _)).mono ?_; rintro e w2 ⟨rfl, h4, h5⟩; have H4 := bl.hid h4; have H5 := bl.hid h5; clear h4 h5))
      all_goals
        have HE : Hid (TurnPost P code (.int .i64 0) (if true = true then s.go (st.u64 (pc + st.u64 im)) else s.nxt) w (.returned (.int .i64 0)) w2) := bl.hid ⟨rfl, by have := H4.out; simp only [wrap_u] at this; rw [if_pos rfl]; exact this, H5.out⟩
        go_wp2
        go_ret
        exact HE.out
  · unfold st.taken at ht
    rw [if_neg (by decide), if_neg (by decide), if_neg (by decide), if_pos rfl] at ht
    have ht : decide (wrap64 y ≤ wrap64 x) = t := by rw [sg_wrap64 x hx0 hx1, sg_wrap64 y hy0 hy1]; exact ht
    cases t
    · go_enter Tryz.func86, Tryz.ntmps86
      go_wp2
      go_quiet (fail)
      go_wp2_with fail
      refine (HNx.out _ (HBl.out.drewN' _) (HM.out.drewN _)).mono ?_
      rintro e w2 ⟨rfl, h4, h5⟩
      have HE : Hid (TurnPost P code (.int .i64 0) (if false = true then s.go (st.u64 (pc + st.u64 im)) else s.nxt) w (.returned (.int .i64 0)) w2) := bl.hid ⟨rfl, by rw [if_neg (by simp)]; exact h4, h5⟩
      clear h4 h5
      go_wp2
      go_ret
      exact HE.out
    · go_enter Tryz.func86, Tryz.ntmps86
      go_wp2
      go_quiet (fail)
      go_wp2
      go_region_with (first
        | (go_at_call 102; refine (HGo.out _ (HBl.out.drewN' _).drew (HM.out.heapEq rfl) _ (HU.out _)).mono ?_; rintro e w2 ⟨rfl, h4, h5⟩; have H4 := bl.hid h4; have H5 := bl.hid h5; clear h4 h5))
      all_goals
        have HE : Hid (TurnPost P code (.int .i64 0) (if true = true then s.go (st.u64 (pc + st.u64 im)) else s.nxt) w (.returned (.int .i64 0)) w2) := bl.hid ⟨rfl, by have := H4.out; simp only [wrap_u] at this; rw [if_pos rfl]; exact this, H5.out⟩
        go_wp2
        go_ret
        exact HE.out
  · unfold st.taken at ht
    rw [if_neg (by decide), if_neg (by decide), if_neg (by decide), if_neg (by decide), if_pos rfl] at ht
    have ht : decide (x < y) = t := ht
    cases t
    · go_enter Tryz.func86, Tryz.ntmps86
      go_wp2
      go_quiet (fail)
      go_wp2_with fail
      refine (HNx.out _ (HBl.out.drewN' _) (HM.out.drewN _)).mono ?_
      rintro e w2 ⟨rfl, h4, h5⟩
      have HE : Hid (TurnPost P code (.int .i64 0) (if false = true then s.go (st.u64 (pc + st.u64 im)) else s.nxt) w (.returned (.int .i64 0)) w2) := bl.hid ⟨rfl, by rw [if_neg (by simp)]; exact h4, h5⟩
      clear h4 h5
      go_wp2
      go_ret
      exact HE.out
    · go_enter Tryz.func86, Tryz.ntmps86
      go_wp2
      go_quiet (fail)
      go_wp2
      go_region_with (first
        | (go_at_call 102; refine (HGo.out _ (HBl.out.drewN' _).drew (HM.out.heapEq rfl) _ (HU.out _)).mono ?_; rintro e w2 ⟨rfl, h4, h5⟩; have H4 := bl.hid h4; have H5 := bl.hid h5; clear h4 h5))
      all_goals
        have HE : Hid (TurnPost P code (.int .i64 0) (if true = true then s.go (st.u64 (pc + st.u64 im)) else s.nxt) w (.returned (.int .i64 0)) w2) := bl.hid ⟨rfl, by have := H4.out; simp only [wrap_u] at this; rw [if_pos rfl]; exact this, H5.out⟩
        go_wp2
        go_ret
        exact HE.out
  · unfold st.taken at ht
    rw [if_neg (by decide), if_neg (by decide), if_neg (by decide), if_neg (by decide), if_neg (by decide)] at ht
    have ht : decide (y ≤ x) = t := ht
    cases t
    · go_enter Tryz.func86, Tryz.ntmps86
      go_wp2
      go_quiet (fail)
      go_wp2_with fail
      refine (HNx.out _ (HBl.out.drewN' _) (HM.out.drewN _)).mono ?_
      rintro e w2 ⟨rfl, h4, h5⟩
      have HE : Hid (TurnPost P code (.int .i64 0) (if false = true then s.go (st.u64 (pc + st.u64 im)) else s.nxt) w (.returned (.int .i64 0)) w2) := bl.hid ⟨rfl, by rw [if_neg (by simp)]; exact h4, h5⟩
      clear h4 h5
      go_wp2
      go_ret
      exact HE.out
    · go_enter Tryz.func86, Tryz.ntmps86
      go_wp2
      go_quiet (fail)
      go_wp2
      go_region_with (first
        | (go_at_call 102; refine (HGo.out _ (HBl.out.drewN' _).drew (HM.out.heapEq rfl) _ (HU.out _)).mono ?_; rintro e w2 ⟨rfl, h4, h5⟩; have H4 := bl.hid h4; have H5 := bl.hid h5; clear h4 h5))
      all_goals
        have HE : Hid (TurnPost P code (.int .i64 0) (if true = true then s.go (st.u64 (pc + st.u64 im)) else s.nxt) w (.returned (.int .i64 0)) w2) := bl.hid ⟨rfl, by have := H4.out; simp only [wrap_u] at this; rw [if_pos rfl]; exact this, H5.out⟩
        go_wp2
        go_ret
        exact HE.out
end Go.Proofs.YtjjkocklpcdbkaaGreat
