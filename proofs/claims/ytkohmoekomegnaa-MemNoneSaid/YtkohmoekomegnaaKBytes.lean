/- The statements' kit on bytes: a copy, what is lent, what is kept, what is written over: each by a contract. -/
import Derived.Test.YtkohmoekomegnaaWGet
namespace Go.Proofs.Ytkohmoekomegnaa
open Go.RowKit
set_option linter.unusedVariables false

namespace kt
/-- only block g has turned -/
structure Only (g : Nat) (w w' : World) : Prop where
  os : w'.os = w.os
  tape : w'.tape = w.tape
  output : w'.output = w.output
  size : w'.heap.size = w.heap.size
  block : ∀ k, k ≠ g → w'.heap[k]? = w.heap[k]?
theorem Only.refl (g : Nat) (w : World) : Only g w w := ⟨rfl, rfl, rfl, rfl, fun _ _ => rfl⟩
theorem Only.trans {g : Nat} {a b c : World} (h : Only g a b) (k : Only g b c) : Only g a c := ⟨k.os.trans h.os, k.tape.trans h.tape, k.output.trans h.output, k.size.trans h.size, fun i hi => (k.block i hi).trans (h.block i hi)⟩
theorem Only.setCell (g o : Nat) (w : World) (v : Value) : Only g w (w.setCell ⟨g, o, none⟩ v) := ⟨rfl, rfl, rfl, by simp, fun k hk => Below.heap_setCell w ⟨g, o, none⟩ v k hk⟩
theorem Only.below {g B : Nat} {w w' : World} (h : Only g w w') (hB : B ≤ g) : Below B w w' := ⟨h.os, h.tape, h.output, by rw [h.size]; exact Nat.le_refl _, fun k hk => h.block k (by omega)⟩
theorem Own.empty (p : Value → Prop) (w : World) (e : TypeId) (size : Nat) : Own p (w.alloc (.cells #[] e)) w.heap.size e size (.slice (some ⟨w.heap.size, 0, none⟩) 0 0) 0 [] :=
  ⟨by simp, .inr ⟨w.heap.size, 0, [], rfl, Nat.le_refl _, heap_alloc_new w _, Nat.le_refl _, Nat.zero_le _, by simp, by simp, by simp⟩⟩
theorem wpList_append_Own_none {P : Program} {w : World} {ops : Array Oper} {rest : List Oper} {o : Oper} {a : Act} {Q : Exit → Act → World → Prop} (p : Value → Prop) (hgd : o.guard = none) (s x : Operand) (t : TypeId)
    (ho : o.op = .call { callee := .builtin .append, args := #[s, x], argTypes := #[t, t] })
    (B : Nat) (e : TypeId) (i : TypeInfo) (size : Nat) (ht : P.underlying t = some (.slice e)) (hi : P.info? e = some i)
    (v : Value) (n c : Nat) (xs : List Value) (hs : a.eval s = v) (hown : Own p w B e size v n xs) (hx : a.eval x = .slice none 0 c)
    (h : wpList P ops Q rest (a.put o.dst v) w) : wpList P ops Q (o :: rest) a w := by
  refine wpList_plain hgd fun K hK => ?_
  have hrun : (Builtin.append_ #[t, t] o.type #[v, .slice none 0 c]).run P w = .ok v w := by
    rcases hown.2 with ⟨rfl, rfl⟩ | ⟨g, cap, cur, rfl, _, _, hnc, _⟩
    · simp [Builtin.append_, run_underlying ht, sizeOf, typeInfo, hi, Builtin.lenOf, Builtin.firstCells]
    · simp [Builtin.append_, run_underlying ht, sizeOf, typeInfo, hi, Builtin.lenOf, Builtin.firstCells, hnc, storeCells]
  unfold Oper.wp
  simp [execOp, ho, resolve, invoke, builtin, hs, hx, hrun, Result.andThen]
  exact hK _ _ h
theorem Rd.cells {w : World} {n : Nat} {l : List Int} {b off : Nat} (h : Rd w (some ⟨b, off, none⟩) n l) : ∀ j u, (l.map (Value.int .u8))[j]? = some u → w.cell? ((⟨b, off, none⟩ : Addr).add j) = some u := by
  intro j u hu
  obtain ⟨h1, h2, h3⟩ := h
  have hj : j < l.length := by
    rcases Nat.lt_or_ge j l.length with g | g
    · exact g
    · rw [List.getElem?_eq_none (by simpa using g)] at hu
      cases hu
  rcases h3 with h3 | ⟨b', off', e, hc⟩
  · omega
  · simp only [Option.some.injEq, Addr.mk.injEq] at e
    obtain ⟨rfl, rfl, -⟩ := e
    have hadd : (⟨b, off, none⟩ : Addr).add j = ⟨b, off + j, none⟩ := by unfold Addr.add; split <;> simp_all
    rw [hadd, hc j (by omega)]
    simp [hj] at hu
    subst hu
    simp [List.getD, hj]
/-- the reading stays while all old memory stays -/
theorem Rd.keep {w w' : World} {a : Option Addr} {n : Nat} {l : List Int} (h : Rd w a n l) (hb : Below w.heap.size w w') : Rd w' a n l := by
  refine ⟨h.1, h.2.1, ?_⟩
  rcases h.2.2 with h0 | ⟨b, off, rfl, hc⟩
  · exact .inl h0
  · exact .inr ⟨b, off, rfl, fun i hi => (hb.cell (p := ⟨b, off + i, none⟩) (block_lt_of_cell (hc i hi))).trans (hc i hi)⟩
/-- a slice of bytes that came in reads as a list -/
theorem Rd.come {w : World} {a : Option Addr} {len cap : Nat} {zs : List Int}
    (h : (a = none ∧ len = 0 ∧ cap = 0 ∧ zs = []) ∨ ∃ x, a = some x ∧ len ≤ cap ∧ cap ≤ maxLen ∧ zs.length = cap ∧ (∀ i, i < zs.length → w.cell? (x.add i) = some (.int .u8 (zs.getD i 0))) ∧ ∀ n ∈ zs, (Lit.int .u8 n).wf = true) :
    Rd w a len (zs.take len) := by
  rcases h with ⟨rfl, rfl, rfl, rfl⟩ | ⟨x, rfl, h1, h2, h3, h4, h5⟩
  · exact Rd.nil _ _
  · refine ⟨by rw [List.length_take]; omega, fun z hz => ?_, ?_⟩
    · have := h5 z (List.mem_of_mem_take hz)
      have hmin : IntKind.u8.min = 0 := rfl
      have hmax : IntKind.u8.max = 255 := rfl
      simp only [Lit.wf, Bool.and_eq_true, decide_eq_true_eq] at this
      omega
    · by_cases h0 : len = 0
      · exact .inl h0
      · right
        obtain ⟨b, off, spot⟩ := x
        have hc := h4 0 (by omega)
        have hspot : spot = none := by simpa [Addr.add] using World.cell?_spot hc
        subst hspot
        refine ⟨b, off, rfl, fun i hi => ?_⟩
        have hadd : (⟨b, off, none⟩ : Addr).add i = ⟨b, off + i, none⟩ := by unfold Addr.add; split <;> simp_all
        have := h4 i (by omega)
        rw [hadd] at this
        rw [this]
        simp [List.getD, hi]
theorem u8_one {l : List Int} : ∀ u ∈ l.map (Value.int .u8), u.oneCell' = true := by
  intro u hu
  obtain ⟨z, -, rfl⟩ := List.mem_map.1 hu
  rfl
theorem u8_all {l : List Int} (h : wd.isBytes l) : ∀ u ∈ l.map (Value.int .u8), IsU8 u := by
  intro u hu
  obtain ⟨z, hz, rfl⟩ := List.mem_map.1 hu
  exact ⟨z, (h z hz).1, (h z hz).2, rfl⟩
end kt

/-- a slice in new memory, its cells bytes -/
def RowPost (n : Nat) (l : List Int) (w : World) (e : Ending) (w' : World) : Prop :=
  ∃ a c, e = .returned (.slice a n c) ∧ kt.Own kt.IsU8 w' w.heap.size 5 1 (.slice a n c) n (l.map (Value.int .u8)) ∧ Below w.heap.size w w'

set_option maxHeartbeats 400000 in
theorem copy_any (a : Option Addr) (n c : Nat) (l : List Int) (w : World) (h : kt.Rd w a n l) (hn : n ≤ 140737488355328) :
    Calls Try.prog 49 #[.slice a n c] w (RowPost n l w) := by
  obtain ⟨i0, hi, hz0, hz1, hz2⟩ := info_parts u8_info
  have hemp := kt.Own.empty kt.IsU8 w 5 1
  have hn' := bl.hid hn
  have hl := bl.hid h.1
  have hb := bl.hid h.2.1
  by_cases h0 : n = 0
  · subst h0
    have e0 : l = [] := List.eq_nil_of_length_eq_zero h.1
    subst e0
    cases a with
    | none =>
      clear h hn
      go_enter Try.func49, Try.ntmps49
      go_wp2_with (at_builtin; refine kt.wpList_append_Own_none kt.IsU8 rfl _ _ 22 rfl w.heap.size 5 i0 1 Try.underlying22 hi _ 0 _ [] rfl hemp rfl ?_)
      go_ret
      exact ⟨_, _, rfl, hemp, kt.below_row _⟩
    | some ad =>
      clear h hn
      go_enter Try.func49, Try.ntmps49
      go_wp2_with (at_builtin; refine kt.wpList_append_Own kt.IsU8 rfl _ _ 22 rfl w.heap.size 5 i0 (.int .u8 0) 1 1 Try.underlying22 hi hz0 hz1 hz2 rfl zero_u8 _ 0 [] rfl hemp ad 0 _ [] rfl rfl (by simp) (by simp) (by simp) (by unfold maxLen; omega) (by omega) (by simp) ?_)
      intro v' w1 hown' hgrow
      have hB1 := hemp.below_grown (kt.below_row _) (by simp) hgrow
      go_wp2
      go_ret
      obtain ⟨a', c', hv⟩ := hown'.shape
      exact ⟨a', c', bl.ret1 hv, by rw [← hv]; exact hown', hB1⟩
  · obtain ⟨b, off, ea, hc⟩ := h.2.2.resolve_left h0
    subst ea
    have hR : kt.Rd (w.alloc (.cells #[] 5)) (some ⟨b, off, none⟩) n l := h.keep (kt.below_row _)
    have hR' := bl.hid hR
    clear h hn hc hR
    go_enter Try.func49, Try.ntmps49
    go_wp2_with (at_builtin; refine kt.wpList_append_Own kt.IsU8 rfl _ _ 22 rfl w.heap.size 5 i0 (.int .u8 0) 1 1 Try.underlying22 hi hz0 hz1 hz2 rfl zero_u8 _ 0 [] rfl hemp ⟨b, off, none⟩ n _ (l.map (Value.int .u8)) rfl (by have := hl.out; simp; omega) hR'.out.cells kt.u8_one (kt.u8_all hb.out) (by have := hn'.out; unfold maxLen; omega) (by have := hn'.out; omega) (by simp) ?_)
    intro v' w1 hown' hgrow
    have hB1 := hemp.below_grown (kt.below_row _) (by simp) hgrow
    try simp only [Nat.zero_add, List.nil_append] at hown'
    go_wp2
    go_ret
    obtain ⟨a', c', hv⟩ := hown'.shape
    exact ⟨a', c', bl.ret1 hv, by rw [← hv]; exact hown', hB1⟩

/-- what is lent: a row with three marks behind -/
def LentPost (n : Nat) (l : List Int) (w : World) (e : Ending) (w' : World) : Prop :=
  ∃ g cap, e = .returned (.slice (some ⟨g, 0, none⟩) n (n + 3)) ∧ kt.Own kt.IsU8 w' w.heap.size 5 1 (.slice (some ⟨g, 0, none⟩) (n + 3) cap) (n + 3) ((l ++ [77, 201, 5]).map (Value.int .u8)) ∧ Below w.heap.size w w'
theorem three_u8 : ∀ u ∈ [Value.int .u8 77, .int .u8 201, .int .u8 5], kt.IsU8 u := by
  intro u hu
  simp at hu
  rcases hu with rfl | rfl | rfl
  · exact ⟨77, by decide, by decide, rfl⟩
  · exact ⟨201, by decide, by decide, rfl⟩
  · exact ⟨5, by decide, by decide, rfl⟩
theorem three_one : ∀ u ∈ [Value.int .u8 77, .int .u8 201, .int .u8 5], u.oneCell' = true := by
  intro u hu
  simp at hu
  rcases hu with rfl | rfl | rfl <;> rfl
theorem lit_new (w : World) (cs : List Value) (e : TypeId) : ∀ j u, cs[j]? = some u → (w.alloc (.cells cs.toArray e)).cell? ((⟨w.heap.size, 0, none⟩ : Addr).add j) = some u := by
  intro j u hu
  have hadd : (⟨w.heap.size, 0, none⟩ : Addr).add j = ⟨w.heap.size, j, none⟩ := by unfold Addr.add; split <;> simp_all
  rw [hadd, World.cell?_alloc_new]
  simpa using hu
set_option maxHeartbeats 400000 in
theorem lent_any (a : Option Addr) (n c : Nat) (l : List Int) (w : World) (h : kt.Rd w a n l) (hn : n ≤ 1000000) :
    Calls Try.prog 40 #[.slice a n c] w (LentPost n l w) := by
  obtain ⟨i0, hi, hz0, hz1, hz2⟩ := info_parts u8_info
  have H := bl.hid h
  clear h
  go_enter Try.func40, Try.ntmps40
  go_wp2_with fail
  refine (copy_any a n c l _ H.out (by omega)).mono ?_
  rintro e w1 ⟨a1, c1, rfl, hown, hb1⟩
  have hs1 := hb1.size
  go_wp2_with (at_builtin; refine kt.wpList_append_Own kt.IsU8 rfl _ _ 22 rfl w.heap.size 5 i0 (.int .u8 0) 1 1 Try.underlying22 hi hz0 hz1 hz2 rfl zero_u8 _ n _ rfl (hown.alloc _) ⟨w1.heap.size, 0, none⟩ 3 3 [.int .u8 77, .int .u8 201, .int .u8 5] rfl rfl (lit_new _ _ _) three_one three_u8 (by unfold maxLen; omega) (by omega) (by simp; omega) ?_)
  intro v' w2 hown' hgrow
  have hB2 := (hown.alloc _).below_grown (hb1.alloc hs1 _) (by simp; omega) hgrow
  have hsh : ∃ g cap, v' = .slice (some ⟨g, 0, none⟩) (n + 3) cap ∧ n + 3 ≤ cap := by
    rcases hown'.2 with ⟨_, h0⟩ | ⟨g, cap, cur, hv, _, _, hc, _⟩
    · omega
    · exact ⟨g, cap, hv, hc⟩
  obtain ⟨g, cap, hv, hcap⟩ := hsh
  rw [hv]
  have HO := bl.hid hown'
  have HV := bl.hid hv
  clear hown' hgrow hown hv hb1
  go_wp2
  go_ret
  exact ⟨g, cap, rfl, by rw [List.map_append, ← HV.out]; exact HO.out, hB2⟩

/-- what is written over: only its own block turns -/
def OverPost (g : Nat) (w : World) (e : Ending) (w' : World) : Prop := e = .returned (.tuple #[]) ∧ kt.Only g w w'
theorem over_nil (c : Nat) (w : World) : Calls Try.prog 39 #[.slice none 0 0] w fun e w' => e = .returned (.tuple #[]) ∧ w = w' := by
  go_enter Try.func39, Try.ntmps39
  go_wp2
  refine wp_loop_rounds 1 ?_
  rw [rounds_succ]
  go_wp2
  go_end0
  exact ⟨rfl, rfl⟩
/-- the row while it is written over -/
def OverInv (g m : Nat) (w wr : World) : Prop := ∃ cur : List Value, kt.Only g w wr ∧ wr.heap[g]? = some (.cells cur.toArray 5 (0, 0)) ∧ m ≤ cur.length ∧ ∀ c ∈ cur, kt.IsU8 c
theorem OverInv.cell {g m k : Nat} {w wr : World} (h : OverInv g m w wr) (hk : k < m) : ∃ z : Int, 0 ≤ z ∧ z < 256 ∧ wr.cell? ⟨g, k, none⟩ = some (.int .u8 z) ∧ wr.frozen? ⟨g, k, none⟩ = false ∧ ∀ u : Int, 0 ≤ u → u < 256 → OverInv g m w (wr.setCell ⟨g, k, none⟩ (.int .u8 u)) := by
  obtain ⟨cur, h1, h2, h3, h4⟩ := h
  have hk' : k < cur.length := by omega
  obtain ⟨z, z0, z1, hz⟩ := h4 cur[k] (List.getElem_mem hk')
  refine ⟨z, z0, z1, ?_, frozen_of_row wr g k _ _ h2, fun u u0 u1 => ?_⟩
  · rw [cell_of_row wr g k _ _ _ h2]
    simp [hk', hz]
  · refine ⟨cur.set k (.int .u8 u), h1.trans (kt.Only.setCell g k wr _), ?_, by simpa using h3, ?_⟩
    · rw [heap_setCell_same wr g k cur.toArray _ _ h2]
      simp
    · intro c hc
      rcases List.mem_or_eq_of_mem_set hc with hc | rfl
      · exact h4 c hc
      · exact ⟨u, u0, u1, rfl⟩
set_option maxHeartbeats 400000 in
theorem over_any (g n cap : Nat) (cur : List Value) (w : World) (hg : w.heap[g]? = some (.cells cur.toArray 5 (0, 0))) (hc : cap ≤ cur.length) (hn : n ≤ cap) (hm : cap ≤ 9223372036854775807) (hp : ∀ c ∈ cur, kt.IsU8 c) :
    Calls Try.prog 39 #[.slice (some ⟨g, 0, none⟩) n cap] w (OverPost g w) := by
  have H0 : OverInv g cap w w := ⟨cur, kt.Only.refl _ _, hg, hc, hp⟩
  clear hg hp hc
  go_enter Try.func39, Try.ntmps39
  go_wp2
  go_loopw [3] (fun i wr => ∃ k : Nat, k ≤ cap ∧ i = .int .i64 k ∧ OverInv g cap w wr) (fun i _ => cap - (intOf i).toNat)
  case atStart => exact ⟨0, by omega, rfl, H0⟩
  case round =>
    obtain ⟨k, hk, rfl, hinv⟩ := hrel
    by_cases hlt : k < cap
    · obtain ⟨z, z0, z1, hcell, hfro, hst⟩ := hinv.cell hlt
      have HS := bl.hid hst
      have ub : 0 ≤ IntKind.u8.wrap (z + 91) ∧ IntKind.u8.wrap (z + 91) < 256 := by rw [IntKind.wrap_u8']; omega
      have UB := bl.hid ub
      clear hst ub hinv H0
      go_wp2
      go_roundw
      case rel => first | exact ⟨k + 1, by omega, by go_num, HS.out _ UB.out.1 UB.out.2⟩ | ((repeat apply Exists.intro); refine ⟨⟨k + 1, by omega, by go_num, HS.out _ UB.out.1 UB.out.2⟩, ?_⟩; and_intros <;> rfl)
      case measure => simp [intOf]; omega
    · have hl2 : cap ≤ k := by omega
      clear hlt
      go_wp2
      go_end0
      obtain ⟨cur', h1, -⟩ := hinv
      exact ⟨rfl, h1⟩

theorem Rd_append {w : World} {b off n : Nat} {l m : List Int} (h : kt.Rd w (some ⟨b, off, none⟩) (n + m.length) (l ++ m)) (hl : l.length = n) : kt.Rd w (some ⟨b, off, none⟩) n l ∧ kt.Rd w (some ⟨b, off + n, none⟩) m.length m := by
  obtain ⟨h1, h2, h3⟩ := h
  have key : n + m.length = 0 ∨ ∀ i, i < n + m.length → w.cell? ⟨b, off + i, none⟩ = some (.int .u8 ((l ++ m).getD i 0)) := by
    rcases h3 with h3 | ⟨b', off', e, hc⟩
    · exact .inl h3
    · simp only [Option.some.injEq, Addr.mk.injEq] at e
      obtain ⟨rfl, rfl, -⟩ := e
      exact .inr hc
  refine ⟨⟨hl, fun z hz => h2 z (by simp [hz]), ?_⟩, ⟨rfl, fun z hz => h2 z (by simp [hz]), ?_⟩⟩
  · rcases key with k | k
    · exact .inl (by omega)
    · refine .inr ⟨_, _, rfl, fun i hi => ?_⟩
      rw [k i (by omega)]
      simp [List.getD, List.getElem?_append, hl, hi]
  · rcases key with k | k
    · exact .inl (by omega)
    · refine .inr ⟨_, _, rfl, fun i hi => ?_⟩
      rw [Nat.add_assoc, k (n + i) (by omega)]
      simp [List.getD, List.getElem?_append, hl, show ¬ n + i < n by omega]
set_option maxHeartbeats 400000 in
theorem kept_yes (g : Nat) (a : Option Addr) (n c : Nat) (l : List Int) (w : World) (h : kt.Rd w (some ⟨g, 0, none⟩) (n + 3) (l ++ [77, 201, 5])) (hb : kt.Rd w a n l) (hn : n ≤ 1000000) (hg : g < w.heap.size) :
    Calls Try.prog 42 #[.slice (some ⟨g, 0, none⟩) n (n + 3), .slice a n c] w fun e w' => e = .returned (.bool true) ∧ Below w.heap.size w w' := by
  have hs := Rd_append (m := [77, 201, 5]) h hb.1
  have H1 := bl.hid hs.1
  have H2 := bl.hid hs.2
  have HB := bl.hid hb
  clear h hb hs
  go_enter Try.func42, Try.ntmps42
  go_wp2_with fail
  refine (same_any _ a n n _ c l l _ H1.out HB.out).mono ?_
  rw [decide_eq_true rfl]
  rintro e w' ⟨rfl, rfl⟩
  have H3 : kt.Rd w (some ⟨g, n, none⟩) 3 [77, 201, 5] := by have := H2.out; rw [Nat.zero_add] at this; exact this
  have H4 := bl.hid (H3.below (w' := w.alloc (.cells #[.int .u8 77, .int .u8 201, .int .u8 5] 5)) (B := w.heap.size) (kt.below_row _) (fun ad e => by cases e; exact hg))
  clear H3 H2
  go_wp2_with fail
  refine (same_any _ _ 3 3 _ _ [77, 201, 5] [77, 201, 5] _ H4.out ⟨rfl, by intro z hz; simp at hz; omega, .inr ⟨_, _, rfl, fun i hi => by rw [Nat.zero_add, World.cell?_alloc_new]; match i, hi with | 0, _ => rfl | 1, _ => rfl | 2, _ => rfl⟩⟩).mono ?_
  rw [decide_eq_true rfl]
  rintro e w' ⟨rfl, rfl⟩
  go_wp2
  go_ret
  exact ⟨rfl, kt.below_row _⟩
end Go.Proofs.Ytkohmoekomegnaa
