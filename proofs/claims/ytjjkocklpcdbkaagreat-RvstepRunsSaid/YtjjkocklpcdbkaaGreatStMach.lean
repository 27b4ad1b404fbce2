/- The machine: in plain words, and in memory. -/
import Derived.Test.YtjjkocklpcdbkaaGreatStPairs
import Derived.Test.YtjjkocklpcdbkaaGreatGm2
import Derived.Test.YtjjkocklpcdbkaaGreatGr3
namespace Go.Proofs.YtjjkocklpcdbkaaGreat
open Go.RowKit
set_option linter.unusedVariables false
set_option maxRecDepth 100000
namespace st
/-- an instruction -/
structure In where
  op : Int
  rd : Int
  rs1 : Int
  rs2 : Int
  im : Int
def In.cells (i : In) : Array Value := #[.int .i64 i.op, .int .i64 i.rd, .int .i64 i.rs1, .int .i64 i.rs2, .int .i64 i.im]
/-- a word, told -/
structure Told where
  i : In
  e : Int
def Told.cells (t : Told) : List Value := [.int .i64 t.i.op, .int .i64 t.i.rd, .int .i64 t.i.rs1, .int .i64 t.i.rs2, .int .i64 t.i.im, .int .i64 t.e]
/-- what a machine has: registers, place, memory -/
structure S where
  r : Nat → Int
  pc : Int
  l : List Int
def u64 (x : Int) : Int := x % 18446744073709551616
def S.put (s : S) (n v : Int) : S := if 0 < n then { s with r := fun i => if (i : Int) = n then v else s.r i } else s
def S.go (s : S) (at' : Int) : S := { s with pc := at' }
/-- a register -/
def S.rg (s : S) (n : Int) : Int := s.r n.toNat
/-- the cells of a machine -/
def mcells (s : S) (mp : Nat) (cv : Value) (db : Nat) : Array Value :=
  ((List.range 32).map (fun i => Value.int .u64 (s.r i)) ++ [.int .u64 s.pc, .pointer (some ⟨mp, 0, none⟩), cv, .map (some db)]).toArray
theorem mcells_size (s : S) (mp : Nat) (cv : Value) (db : Nat) : (mcells s mp cv db).size = 36 := by unfold mcells; simp
theorem mcells_reg (s : S) (mp : Nat) (cv : Value) (db i : Nat) (hi : i < 32) : (mcells s mp cv db)[i]? = some (.int .u64 (s.r i)) := by
  unfold mcells
  rw [List.getElem?_toArray, List.getElem?_append_left (by simpa using hi)]
  simp [hi]
theorem mcells_tail (s : S) (mp : Nat) (cv : Value) (db j : Nat) : (mcells s mp cv db)[32 + j]? = [Value.int .u64 s.pc, .pointer (some ⟨mp, 0, none⟩), cv, .map (some db)][j]? := by
  unfold mcells
  rw [List.getElem?_toArray, List.getElem?_append_right (by simp)]
  simp
theorem mcells_put (s : S) (mp : Nat) (cv : Value) (db n : Nat) (v : Int) (h0 : 0 < n) (hn : n < 32) : (mcells s mp cv db).setIfInBounds n (.int .u64 v) = mcells (s.put n v) mp cv db := by
  apply Array.ext_getElem?
  intro i
  rw [Array.getElem?_setIfInBounds, mcells_size]
  have hp : (s.put n v).pc = s.pc := by unfold S.put; split <;> rfl
  have hr : ∀ j : Nat, (s.put n v).r j = if j = n then v else s.r j := by
    intro j
    unfold S.put
    rw [if_pos (by omega)]
    dsimp only
    by_cases h : j = n
    · rw [if_pos (by omega), if_pos h]
    · rw [if_neg (by omega), if_neg h]
  by_cases hi : i < 32
  · rw [mcells_reg _ _ _ _ _ hi, mcells_reg _ _ _ _ _ hi, hr]
    by_cases h : n = i
    · rw [if_pos h, if_pos h.symm, if_pos (by omega)]
    · rw [if_neg h, if_neg (by omega)]
  · obtain ⟨j, rfl⟩ : ∃ j, i = 32 + j := ⟨i - 32, by omega⟩
    rw [if_neg (by omega), mcells_tail, mcells_tail, hp]
theorem mcells_go (s : S) (mp : Nat) (cv : Value) (db : Nat) (v : Int) : (mcells s mp cv db).setIfInBounds 32 (.int .u64 v) = mcells (s.go v) mp cv db := by
  apply Array.ext_getElem?
  intro i
  rw [Array.getElem?_setIfInBounds, mcells_size]
  by_cases hi : i < 32
  · rw [if_neg (by omega), mcells_reg _ _ _ _ _ hi, mcells_reg _ _ _ _ _ hi]
    rfl
  · obtain ⟨j, rfl⟩ : ∃ j, i = 32 + j := ⟨i - 32, by omega⟩
    rw [mcells_tail, mcells_tail]
    cases j with
    | zero => simp [S.go]
    | succ j => rw [if_neg (by omega)]; rfl
theorem mcells_code (s : S) (mp : Nat) (cv cv2 : Value) (db : Nat) : (mcells s mp cv db).setIfInBounds 34 cv2 = mcells s mp cv2 db := by
  apply Array.ext_getElem?
  intro i
  rw [Array.getElem?_setIfInBounds, mcells_size]
  by_cases hi : i < 32
  · rw [if_neg (by omega), mcells_reg _ _ _ _ _ hi, mcells_reg _ _ _ _ _ hi]
  · obtain ⟨j, rfl⟩ : ∃ j, i = 32 + j := ⟨i - 32, by omega⟩
    rw [mcells_tail, mcells_tail]
    match j with
    | 0 => rfl
    | 1 => rfl
    | 2 => rfl
    | 3 => rfl
    | j + 4 => rw [if_neg (by omega)]; rfl
/-- numbers of 64 bits -/
def isU (x : Int) : Prop := 0 ≤ x ∧ x < 18446744073709551616
structure SOk (s : S) : Prop where
  r : ∀ i, i < 32 → isU (s.r i)
  pc : isU s.pc
  zero : s.r 0 = 0
theorem u64_isU (x : Int) : isU (u64 x) := ⟨Int.emod_nonneg _ (by omega), Int.emod_lt_of_pos _ (by omega)⟩
theorem SOk.put {s : S} (h : SOk s) (n v : Int) (hv : isU v) : SOk (s.put n v) := by
  unfold S.put
  split
  · rename_i hn
    refine ⟨fun i hi => ?_, h.pc, ?_⟩
    · dsimp only
      split
      · exact hv
      · exact h.r i hi
    · show (if ((0 : Nat) : Int) = n then v else s.r 0) = 0
      rw [if_neg (by omega)]
      exact h.zero
  · exact h
theorem SOk.go {s : S} (h : SOk s) (a : Int) (ha : isU a) : SOk (s.go a) := ⟨h.r, ha, h.zero⟩
theorem SOk.rg {s : S} (h : SOk s) (n : Int) (hn : 0 ≤ n ∧ n ≤ 31) : isU (s.rg n) := h.r _ (by omega)
/-- what a word is told as -/
def toldOf (v : Int) : Told := if rv.opOf v < 64 then ⟨⟨rv.opOf v, rv.numsK (rv.opOf v) v 1, rv.numsK (rv.opOf v) v 2, rv.numsK (rv.opOf v) v 3, rv.numsK (rv.opOf v) v 4⟩, 0⟩ else ⟨⟨0, 0, 0, 0, 0⟩, 16⟩
theorem toldOf_row (v : Int) : rv.decRow v = (toldOf v).i.cells ∧ rv.decE v = (toldOf v).e := by
  unfold rv.decRow rv.decE toldOf
  split <;> exact ⟨rfl, rfl⟩
/-- a told word is none, or one that may be -/
def ToldOk (t : Told) : Prop := t.e = 0 → rv.chkI t.i.op t.i.rd t.i.rs1 t.i.rs2 t.i.im = 0
theorem toldOf_ok (v : Int) : ToldOk (toldOf v) := by
  intro he
  obtain ⟨h1, h2⟩ := toldOf_row v
  obtain ⟨k, k1, k2, rd, rs1, rs2, im, hd, hc, _⟩ := rv.dec_yes v (h2.trans he)
  rw [h1] at hd
  unfold In.cells at hd
  simp only [Array.mk.injEq, List.cons.injEq, Value.int.injEq, true_and, and_true] at hd
  obtain ⟨a, b, c, d, e⟩ := hd
  rw [a, b, c, d, e]
  exact hc
/-- an instruction that may be: its numbers -/
structure InOk (i : In) : Prop where
  op : 1 ≤ i.op ∧ i.op ≤ 63
  rd : 0 ≤ i.rd ∧ i.rd ≤ 31
  rs1 : 0 ≤ i.rs1 ∧ i.rs1 ≤ 31
  rs2 : 0 ≤ i.rs2 ∧ i.rs2 ≤ 31
  im : -1048576 ≤ i.im ∧ i.im ≤ 1048576
theorem chk_bd (k : Nat) (h1 : k < 64) (h2 : 1 ≤ k) (rd rs1 rs2 im : Int) (hc : rv.chkS (rv.sh k) rd rs1 rs2 im = true) : (0 ≤ rd ∧ rd ≤ 31) ∧ (0 ≤ rs1 ∧ rs1 ≤ 31) ∧ (0 ≤ rs2 ∧ rs2 ≤ 31) ∧ (-1048576 ≤ im ∧ im ≤ 1048576) := by
  have hs : rv.sh k = rv.shR ∨ rv.sh k = rv.shI ∨ rv.sh k = rv.shX ∨ rv.sh k = rv.shY ∨ rv.sh k = rv.shS ∨ rv.sh k = rv.shB ∨ rv.sh k = rv.shU ∨ rv.sh k = rv.shJ ∨ rv.sh k = rv.shE := by
    rcases rv.form_cases k h1 h2 with h | h | h | h | h | h | h | h | h
    · exact .inl (by unfold rv.sh; rw [h]; rfl)
    · exact .inr (.inl (by unfold rv.sh; rw [h]; rfl))
    · exact .inr (.inr (.inl (by unfold rv.sh; rw [h]; rfl)))
    · exact .inr (.inr (.inr (.inl (by unfold rv.sh; rw [h]; rfl))))
    · exact .inr (.inr (.inr (.inr (.inl (by unfold rv.sh; rw [h]; rfl)))))
    · exact .inr (.inr (.inr (.inr (.inr (.inl (by unfold rv.sh; rw [h]; rfl))))))
    · exact .inr (.inr (.inr (.inr (.inr (.inr (.inl (by unfold rv.sh; rw [h]; rfl)))))))
    · exact .inr (.inr (.inr (.inr (.inr (.inr (.inr (.inl (by unfold rv.sh; rw [h]; rfl))))))))
    · exact .inr (.inr (.inr (.inr (.inr (.inr (.inr (.inr ((by unfold rv.sh; rw [h]; rfl)))))))))
  rcases hs with hs | hs | hs | hs | hs | hs | hs | hs | hs <;> rw [hs] at hc
  · have := (rv.chk_R _ _ _ _).1 hc; omega
  · have := (rv.chk_I _ _ _ _).1 hc; omega
  · have := (rv.chk_X _ _ _ _).1 hc; omega
  · have := (rv.chk_Y _ _ _ _).1 hc; omega
  · have := (rv.chk_S _ _ _ _).1 hc; omega
  · have := (rv.chk_B _ _ _ _).1 hc; omega
  · have := (rv.chk_U _ _ _ _).1 hc; omega
  · have := (rv.chk_J _ _ _ _).1 hc; omega
  · have := (rv.chk_E _ _ _ _).1 hc; omega
theorem ToldOk.ins {t : Told} (h : ToldOk t) (he : t.e = 0) : InOk t.i := by
  have hc := h he
  obtain ⟨h1, h2⟩ := rv.chk_is _ _ _ _ _ hc
  obtain ⟨k, hk⟩ : ∃ k : Nat, t.i.op = k := ⟨t.i.op.toNat, by omega⟩
  rw [hk] at hc
  have hb := chk_bd k (by omega) (by omega) _ _ _ _ ((rv.chkI_nat k (by omega) (by omega) _ _ _ _).1 hc)
  exact ⟨by omega, hb.1, hb.2.1, hb.2.2.1, hb.2.2.2⟩
end st
end Go.Proofs.YtjjkocklpcdbkaaGreat
