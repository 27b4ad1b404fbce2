/- The reference's machine in memory; Reg, Set, New, Load. -/
import Derived.Test.YtjjkocklpcdbkaaGreatStSide
import Derived.Test.YtjjkocklpcdbkaaGreatGm3
import Derived.Test.YtjjkocklpcdbkaaGreatGf2
namespace Go.Proofs.YtjjkocklpcdbkaaGreat
open Go.RowKit
set_option linter.unusedVariables false
set_option maxRecDepth 100000
namespace st
/-- the cells of the reference's machine -/
def rcells (s : S) (mp : Nat) (cv : Value) : Array Value :=
  ((List.range 32).map (fun i => Value.int .u64 (s.r i)) ++ [.int .u64 s.pc, .pointer (some ⟨mp, 0, none⟩), cv]).toArray
theorem rcells_size (s : S) (mp : Nat) (cv : Value) : (rcells s mp cv).size = 35 := by unfold rcells; simp
theorem rcells_reg (s : S) (mp : Nat) (cv : Value) (i : Nat) (hi : i < 32) : (rcells s mp cv)[i]? = some (.int .u64 (s.r i)) := by
  unfold rcells
  rw [List.getElem?_toArray, List.getElem?_append_left (by simpa using hi)]
  simp [hi]
theorem rcells_tail (s : S) (mp : Nat) (cv : Value) (j : Nat) : (rcells s mp cv)[32 + j]? = [Value.int .u64 s.pc, .pointer (some ⟨mp, 0, none⟩), cv][j]? := by
  unfold rcells
  rw [List.getElem?_toArray, List.getElem?_append_right (by simp)]
  simp
theorem rcells_put (s : S) (mp : Nat) (cv : Value) (n : Nat) (v : Int) (h0 : 0 < n) (hn : n < 32) : (rcells s mp cv).setIfInBounds n (.int .u64 v) = rcells (s.put n v) mp cv := by
  apply Array.ext_getElem?
  intro i
  rw [Array.getElem?_setIfInBounds, rcells_size]
  have hp : (s.put n v).pc = s.pc := by unfold S.put; split <;> rfl
  have hr : ∀ j : Nat, (s.put n v).r j = if j = n then v else s.r j := by
    intro j
    unfold S.put
    rw [if_pos (by omega)]
    dsimp only
    by_cases h : j = n
    · rw [if_pos (by omega), if_pos h]
    · rw [if_neg (by omega), if_neg h]
  by_cases hi : i < 32
  · rw [rcells_reg _ _ _ _ hi, rcells_reg _ _ _ _ hi, hr]
    by_cases h : n = i
    · rw [if_pos h, if_pos h.symm, if_pos (by omega)]
    · rw [if_neg h, if_neg (by omega)]
  · obtain ⟨j, rfl⟩ : ∃ j, i = 32 + j := ⟨i - 32, by omega⟩
    rw [if_neg (by omega), rcells_tail, rcells_tail, hp]
theorem rcells_go (s : S) (mp : Nat) (cv : Value) (v : Int) : (rcells s mp cv).setIfInBounds 32 (.int .u64 v) = rcells (s.go v) mp cv := by
  apply Array.ext_getElem?
  intro i
  rw [Array.getElem?_setIfInBounds, rcells_size]
  by_cases hi : i < 32
  · rw [if_neg (by omega), rcells_reg _ _ _ _ hi, rcells_reg _ _ _ _ hi]
    rfl
  · obtain ⟨j, rfl⟩ : ∃ j, i = 32 + j := ⟨i - 32, by omega⟩
    rw [rcells_tail, rcells_tail]
    cases j with
    | zero => simp [S.go]
    | succ j => rw [if_neg (by omega)]; rfl
theorem rcells_code (s : S) (mp : Nat) (cv cv2 : Value) : (rcells s mp cv).setIfInBounds 34 cv2 = rcells s mp cv2 := by
  apply Array.ext_getElem?
  intro i
  rw [Array.getElem?_setIfInBounds, rcells_size]
  by_cases hi : i < 32
  · rw [if_neg (by omega), rcells_reg _ _ _ _ hi, rcells_reg _ _ _ _ hi]
  · obtain ⟨j, rfl⟩ : ∃ j, i = 32 + j := ⟨i - 32, by omega⟩
    rw [rcells_tail, rcells_tail]
    match j with
    | 0 => rfl
    | 1 => rfl
    | 2 => rfl
    | j + 3 => rw [if_neg (by omega)]; rfl
end st
/-- the reference's machine lies there -/
structure IsRM (w : World) (P : st.Pl) (f : Nat → Int) (s : st.S) : Prop where
  row : w.heap[P.p]? = some (.cells (st.rcells s P.mp (.slice P.ca P.n P.c)) 49 (0, 0))
  mem : IsRef w P.mp P.g s.l
  words : ∀ i, i < P.n → 0 ≤ f i ∧ f i < 4294967296
  told : P.n = 0 ∨ ∃ b, P.ca = some ⟨b, 0, none⟩ ∧ ∃ rest, w.heap[b]? = some (.cells ((List.range P.n).map (fun i => Value.int .u32 (f i)) ++ rest).toArray 97 (0, 0))
  ok : st.SOk s
  small : P.n ≤ 65536
theorem IsRM.lt {w : World} {P : st.Pl} {f : Nat → Int} {s : st.S} (h : IsRM w P f s) : P.p < w.heap.size := (Array.getElem?_eq_some_iff.1 h.row).1
theorem IsRM.ne_mp {w : World} {P : st.Pl} {f : Nat → Int} {s : st.S} (h : IsRM w P f s) : P.p ≠ P.mp := by
  obtain ⟨cap, _, h2⟩ := h.mem.head
  exact type_ne h.row h2 (by decide)
theorem IsRM.ne_g {w : World} {P : st.Pl} {f : Nat → Int} {s : st.S} (h : IsRM w P f s) : P.p ≠ P.g := by
  obtain ⟨rest, h2⟩ := h.mem.row
  exact type_ne h.row h2 (by decide)
theorem IsRM.keptBy {w w' : World} {P : st.Pl} {f : Nat → Int} {s : st.S} (h : IsRM w P f s) (hb : ∀ b, b < w.heap.size → w'.heap[b]? = w.heap[b]?) : IsRM w' P f s := by
  refine ⟨(hb _ h.lt).trans h.row, h.mem.kept (hb _ h.mem.lt.1) (hb _ h.mem.lt.2), h.words, ?_, h.ok, h.small⟩
  rcases h.told with h0 | ⟨b, e, rest, h1⟩
  · exact .inl h0
  · exact .inr ⟨b, e, rest, (hb _ (Array.getElem?_eq_some_iff.1 h1).1).trans h1⟩
theorem IsRM.keep {w w' : World} {P : st.Pl} {f : Nat → Int} {s : st.S} (h : IsRM w P f s) (hb : Below w.heap.size w w') : IsRM w' P f s := h.keptBy fun b hl => hb.block b hl
theorem IsRM.heapEq {w w' : World} {P : st.Pl} {f : Nat → Int} {s : st.S} (h : IsRM w P f s) (hh : w'.heap = w.heap) : IsRM w' P f s := h.keptBy fun b _ => by rw [hh]
theorem IsRM.drewN {w : World} {P : st.Pl} {f : Nat → Int} {s : st.S} (h : IsRM w P f s) (m : Nat) : IsRM (w.drewN m) P f s := h.keep ((Below.refl _ _).drewN' m)
/-- a machine whose own cells turn -/
theorem IsRM.turn {w w' : World} {P : st.Pl} {f : Nat → Int} {s s' : st.S} (h : IsRM w P f s) (ho : kt.Only P.p w w') (hl : s'.l = s.l) (hr : w'.heap[P.p]? = some (.cells (st.rcells s' P.mp (.slice P.ca P.n P.c)) 49 (0, 0))) (hok : st.SOk s') : IsRM w' P f s' := by
  refine ⟨hr, ?_, h.words, ?_, hok, h.small⟩
  · rw [hl]
    exact h.mem.kept (ho.block _ h.ne_mp.symm) (ho.block _ h.ne_g.symm)
  · rcases h.told with h0 | ⟨b, e, rest, h1⟩
    · exact .inl h0
    · exact .inr ⟨b, e, rest, (ho.block _ (type_ne h1 h.row (by decide))).trans h1⟩
/-- a machine whose memory turns -/
theorem IsRM.store {w w' : World} {P : st.Pl} {f : Nat → Int} {s : st.S} {l : List Int} (h : IsRM w P f s) (hg : kt.Only P.g w w') (hm : IsRef w' P.mp P.g l) : IsRM w' P f { s with l := l } := by
  obtain ⟨rest2, h2⟩ := h.mem.row
  refine ⟨(hg.block _ h.ne_g).trans h.row, hm, h.words, ?_, ⟨h.ok.r, h.ok.pc, h.ok.zero⟩, h.small⟩
  rcases h.told with h0 | ⟨b, e, rest, h1⟩
  · exact .inl h0
  · exact .inr ⟨b, e, rest, (hg.block _ (type_ne h1 h2 (by decide))).trans h1⟩
section
variable {w : World} {P : st.Pl} {f : Nat → Int} {s : st.S}
theorem IsRM.regC (h : IsRM w P f s) (n : Nat) (hn : n < 32) : w.cell? ⟨P.p, n, none⟩ = some (.int .u64 (s.r n)) := (cell_of_row _ _ _ _ _ _ h.row).trans (by rw [st.rcells_reg _ _ _ _ hn])
theorem IsRM.pcC (h : IsRM w P f s) : w.cell? ⟨P.p, 32, none⟩ = some (.int .u64 s.pc) := (cell_of_row _ _ _ _ _ _ h.row).trans (st.rcells_tail _ _ _ 0)
theorem IsRM.mC (h : IsRM w P f s) : w.cell? ⟨P.p, 33, none⟩ = some (.pointer (some ⟨P.mp, 0, none⟩)) := (cell_of_row _ _ _ _ _ _ h.row).trans (st.rcells_tail _ _ _ 1)
theorem IsRM.codeC (h : IsRM w P f s) : w.cell? ⟨P.p, 34, none⟩ = some (.slice P.ca P.n P.c) := (cell_of_row _ _ _ _ _ _ h.row).trans (st.rcells_tail _ _ _ 2)
end
/-- what a call that turns the reference's machine answers -/
def RTurn (P : st.Pl) (f : Nat → Int) (v : Value) (s : st.S) (w : World) (e : Ending) (w' : World) : Prop := e = .returned v ∧ IsRM w' P f s ∧ But2 P.p P.g w w'
theorem RTurn.behind {P : st.Pl} {f : Nat → Int} {v : Value} {s : st.S} {w w1 : World} {e : Ending} {w' : World} (h : RTurn P f v s w1 e w') (hb : Below w.heap.size w w1) : RTurn P f v s w e w' := ⟨h.1, h.2.1, (But2.of_below hb).trans h.2.2⟩
/-- its place is set -/
theorem IsRM.goes {w : World} {P : st.Pl} {f : Nat → Int} {s : st.S} (h : IsRM w P f s) (a : Int) (ha : st.isU a) : IsRM (w.setCell ⟨P.p, 32, none⟩ (.int .u64 a)) P f (s.go a) ∧ But2 P.p P.g w (w.setCell ⟨P.p, 32, none⟩ (.int .u64 a)) :=
  ⟨h.turn (kt.Only.setCell _ _ _ _) rfl (by rw [heap_setCell_same _ _ _ _ _ _ h.row, st.rcells_go]) (h.ok.go a ha), But2.of_only (kt.Only.setCell _ _ _ _)⟩
theorem rsreg_any (w : World) (P : st.Pl) (f : Nat → Int) (s : st.S) (n : Int) (h : IsRM w P f s) (hn : -9223372036854775808 ≤ n ∧ n ≤ 9223372036854775807) :
    Calls Tryz.prog 28 #[.pointer (some ⟨P.p, 0, none⟩), .int .i64 n] w fun e w' => e = .returned (.int .u64 (s.reg n)) ∧ ∃ m, w' = w.drewN m := by
  by_cases h1 : 0 ≤ n ∧ n < 32
  · obtain ⟨k, rfl⟩ : ∃ k : Nat, n = k := ⟨n.toNat, by omega⟩
    have hk : k < 32 := by omega
    have c := h.regC k hk
    have hr : s.reg k = s.r k := by unfold st.S.reg st.S.rg; rw [if_pos h1, Int.toNat_natCast]
    rw [hr]
    have hk2 : (k : Int) < 32 := by omega
    clear h h1 hn hr
    go_enter Tryz.func28, Tryz.ntmps28
    go_wp2
    go_ret
    exact ⟨rfl, 0, rfl⟩
  · have hr : s.reg n = 0 := by unfold st.S.reg; rw [if_neg h1]
    rw [hr]
    by_cases h2 : n < 0
    · clear h h1 hr
      go_enter Tryz.func28, Tryz.ntmps28
      go_wp2
      go_ret
      exact ⟨rfl, 0, rfl⟩
    · have h3 : 32 ≤ n := by omega
      clear h h1 hr
      go_enter Tryz.func28, Tryz.ntmps28
      go_wp2
      go_ret
      exact ⟨rfl, 0, rfl⟩
theorem rsset_any (w : World) (P : st.Pl) (f : Nat → Int) (s : st.S) (n v : Int) (h : IsRM w P f s) (hv : st.isU v) :
    Calls Tryz.prog 15 #[.pointer (some ⟨P.p, 0, none⟩), .int .i64 n, .int .u64 v] w (RTurn P f (.int .i64 (st.setE n)) (s.set n v) w) := by
  by_cases h1 : 0 ≤ n ∧ n < 32
  · have he : st.setE n = 0 := by unfold st.setE; rw [if_pos h1]
    have hs : s.set n v = s.put n v := by unfold st.S.set; rw [if_pos h1]
    rw [he, hs]
    obtain ⟨k, rfl⟩ : ∃ k : Nat, n = k := ⟨n.toNat, by omega⟩
    have hk : k < 32 := by omega
    have hk2 : (k : Int) < 32 := by omega
    by_cases h0 : 0 < k
    · have c := h.regC k hk
      have fr := frozen_of_row w P.p k _ _ h.row
      have HE : Hid (RTurn P f (.int .i64 0) (s.put k v) w (.returned (.int .i64 0)) (w.setCell ⟨P.p, k, none⟩ (.int .u64 v))) := bl.hid ⟨rfl, h.turn (kt.Only.setCell _ _ _ _) (by unfold st.S.put; split <;> rfl) (by rw [heap_setCell_same _ _ _ _ _ _ h.row, st.rcells_put _ _ _ k v h0 hk]) (h.ok.put k v hv), But2.of_only (kt.Only.setCell _ _ _ _)⟩
      clear h h1 hv he hs
      go_enter Tryz.func15, Tryz.ntmps15
      go_wp2
      go_ret
      exact HE.out
    · obtain rfl : k = 0 := by omega
      have HE : Hid (RTurn P f (.int .i64 0) (s.put (0 : Nat) v) w (.returned (.int .i64 0)) w) := bl.hid ⟨rfl, by unfold st.S.put; rw [if_neg (by omega)]; exact h, But2.refl _ _ _⟩
      clear h h1 hv he hs h0
      go_enter Tryz.func15, Tryz.ntmps15
      go_wp2
      go_ret
      exact HE.out
  · have HE : Hid (RTurn P f (.int .i64 2) s w (.returned (.int .i64 2)) w) := bl.hid ⟨rfl, h, But2.refl _ _ _⟩
    have he : st.setE n = 2 := by unfold st.setE; rw [if_neg h1]
    have hs : s.set n v = s := by unfold st.S.set; rw [if_neg h1]
    rw [he, hs]
    by_cases h2 : n < 0
    · clear h hv he hs h1
      go_enter Tryz.func15, Tryz.ntmps15
      go_wp2
      go_ret
      exact HE.out
    · have h3 : 32 ≤ n := by omega
      clear h hv he hs h1
      go_enter Tryz.func15, Tryz.ntmps15
      go_wp2
      go_ret
      exact HE.out
/-- a set at a register that may be -/
theorem rsput_any (w : World) (P : st.Pl) (f : Nat → Int) (s : st.S) (n v : Int) (h : IsRM w P f s) (hn : 0 ≤ n ∧ n ≤ 31) (hv : st.isU v) :
    Calls Tryz.prog 15 #[.pointer (some ⟨P.p, 0, none⟩), .int .i64 n, .int .u64 v] w (RTurn P f (.int .i64 0) (s.put n v) w) := by
  have := rsset_any w P f s n v h hv
  unfold st.setE st.S.set at this
  rwa [if_pos (by omega), if_pos (by omega)] at this
theorem rmach_box (l : List Int) (mp : Nat) : st.rcells (st.S0 l) mp (.slice none 0 0) = #[.int .u64 0, .int .u64 0, .int .u64 0, .int .u64 0, .int .u64 0, .int .u64 0, .int .u64 0, .int .u64 0, .int .u64 0, .int .u64 0, .int .u64 0, .int .u64 0, .int .u64 0, .int .u64 0, .int .u64 0, .int .u64 0, .int .u64 0, .int .u64 0, .int .u64 0, .int .u64 0, .int .u64 0, .int .u64 0, .int .u64 0, .int .u64 0, .int .u64 0, .int .u64 0, .int .u64 0, .int .u64 0, .int .u64 0, .int .u64 0, .int .u64 0, .int .u64 0, .int .u64 4294967296, .pointer (some ⟨mp, 0, none⟩), .slice none 0 0] := rfl
/-- what the reference's New tells -/
def RMakePost (l : List Int) (mp g : Nat) (w : World) (e : Ending) (w' : World) : Prop :=
  ∃ p, e = .returned (.pointer (some ⟨p, 0, none⟩)) ∧ w.heap.size ≤ p ∧ IsRM w' ⟨p, mp, g, 0, none, 0, 0⟩ (fun _ => 0) (st.S0 l) ∧ Below w.heap.size w w'
theorem rmake_any (w : World) (mp g : Nat) (l : List Int) (hm : IsRef w mp g l) :
    Calls Tryz.prog 24 #[.pointer (some ⟨mp, 0, none⟩)] w (RMakePost l mp g w) := by
  have HE : Hid (∀ w1, w1 = w.alloc (.cells (st.rcells (st.S0 l) mp (.slice none 0 0)) 49) → RMakePost l mp g w (.returned (.pointer (some ⟨w.heap.size, 0, none⟩))) w1) := bl.hid fun w1 e => by
    have hb : Below w.heap.size w w1 := by rw [e]; exact (Below.refl _ _).alloc (Nat.le_refl _) _
    refine ⟨_, rfl, Nat.le_refl _, ⟨?_, hm.keep hb, fun i hi => absurd hi (Nat.not_lt_zero i), .inl rfl, st.S0_ok l, by show 0 ≤ 65536; omega⟩, hb⟩
    rw [e]
    exact heap_alloc_new _ _
  rw [rmach_box] at HE
  clear hm
  go_enter Tryz.func24, Tryz.ntmps24
  go_wp2
  go_ret
  exact HE.out _ rfl
end Go.Proofs.YtjjkocklpcdbkaaGreat
