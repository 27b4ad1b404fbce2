/- New, Load: a machine is made, and gets code. -/
import Derived.Test.YtjjkocklpcdbkaaGreatStRun
namespace Go.Proofs.YtjjkocklpcdbkaaGreat
open Go.RowKit
set_option linter.unusedVariables false
set_option maxRecDepth 100000
namespace st
/-- a machine as it begins -/
def S0 (l : List Int) : S := ⟨fun _ => 0, 4294967296, l⟩
theorem S0_ok (l : List Int) : SOk (S0 l) := ⟨fun i _ => by unfold isU S0; dsimp only; omega, by unfold isU S0; dsimp only; omega, rfl⟩
def noTold : Told := ⟨⟨0, 0, 0, 0, 0⟩, 0⟩
/-- the words told so far -/
def codeK (f : Nat → Int) (k : Nat) (j : Nat) : Told := if j < k then toldOf (f j) else noTold
theorem tflat_ext (a b : Nat → Told) (n : Nat) (h : ∀ k, k < n → a k = b k) : tflat a n = tflat b n := by
  apply List.ext_getElem?
  intro i
  by_cases hi : i < n * 6
  · obtain ⟨q, r, hr, rfl⟩ : ∃ q r, r < 6 ∧ i = q * 6 + r := ⟨i / 6, i % 6, Nat.mod_lt _ (by decide), by omega⟩
    rw [tflat_at _ _ _ _ (by omega) hr, tflat_at _ _ _ _ (by omega) hr, h q (by omega)]
  · rw [List.getElem?_eq_none (by rw [tflat_len]; omega), List.getElem?_eq_none (by rw [tflat_len]; omega)]
/-- one told word more -/
theorem tflat_put (code : Nat → Told) (n k : Nat) (t : Told) (hk : k < n) : ((((((tflat code n).toArray.setIfInBounds (k * 6) (.int .i64 t.i.op)).setIfInBounds (k * 6 + 1) (.int .i64 t.i.rd)).setIfInBounds (k * 6 + 2) (.int .i64 t.i.rs1)).setIfInBounds (k * 6 + 3) (.int .i64 t.i.rs2)).setIfInBounds (k * 6 + 4) (.int .i64 t.i.im)).setIfInBounds (k * 6 + 5) (.int .i64 t.e) = (tflat (fun j => if j = k then t else code j) n).toArray := by
  apply Array.ext_getElem?
  intro i
  simp only [Array.getElem?_setIfInBounds, Array.size_setIfInBounds, List.size_toArray, tflat_len, List.getElem?_toArray]
  by_cases hi : i < n * 6
  · obtain ⟨q, r, hr, rfl⟩ : ∃ q r, r < 6 ∧ i = q * 6 + r := ⟨i / 6, i % 6, Nat.mod_lt _ (by decide), by omega⟩
    have hq : q < n := by omega
    rw [tflat_at _ _ _ _ hq hr, tflat_at _ _ _ _ hq hr]
    by_cases e : q = k
    · subst e
      have hc : r = 0 ∨ r = 1 ∨ r = 2 ∨ r = 3 ∨ r = 4 ∨ r = 5 := by omega
      rcases hc with rfl | rfl | rfl | rfl | rfl | rfl <;> simp [Told.cells] <;> omega
    · have h0 : ∀ j, j < 6 → ¬ (k * 6 + j = q * 6 + r) := fun j hj h => e (by omega)
      rw [if_neg (h0 5 (by omega)), if_neg (h0 4 (by omega)), if_neg (h0 3 (by omega)), if_neg (h0 2 (by omega)), if_neg (h0 1 (by omega)), if_neg (by have := h0 0 (by omega); simpa using this), if_neg e]
  · rw [List.getElem?_eq_none (by rw [tflat_len]; omega), List.getElem?_eq_none (by rw [tflat_len]; omega)]
    repeat' split
    all_goals first | rfl | omega
theorem codeK_step (f : Nat → Int) (k : Nat) : (fun j => if j = k then toldOf (f k) else codeK f k j) = codeK f (k + 1) := by
  funext j
  unfold codeK
  by_cases h : j = k
  · subst h
    rw [if_pos rfl, if_pos (by omega)]
  · rw [if_neg h]
    by_cases h2 : j < k
    · rw [if_pos h2, if_pos (by omega)]
    · rw [if_neg h2, if_neg (by omega)]
theorem made_zero (n : Nat) : (madeCells #[.int .i64 0, .int .i64 0, .int .i64 0, .int .i64 0, .int .i64 0, .int .i64 0] (n * 6)).toList = tflat (fun _ => noTold) n := by
  apply List.ext_getElem?
  intro i
  by_cases hi : i < n * 6
  · obtain ⟨q, r, hr, rfl⟩ : ∃ q r, r < 6 ∧ i = q * 6 + r := ⟨i / 6, i % 6, Nat.mod_lt _ (by decide), by omega⟩
    rw [tflat_at _ _ _ _ (by omega) hr]
    have hm : (q * 6 + r) % 6 = r := by omega
    have e : (madeCells #[.int .i64 0, .int .i64 0, .int .i64 0, .int .i64 0, .int .i64 0, .int .i64 0] (n * 6)).toList[q * 6 + r]? = some ((#[.int .i64 0, .int .i64 0, .int .i64 0, .int .i64 0, .int .i64 0, .int .i64 0] : Array Value)[(q * 6 + r) % 6]!) := by
      unfold madeCells
      rw [Array.getElem?_toList, Array.getElem?_map, Array.getElem?_range, if_pos hi]
      rfl
    rw [e, hm]
    have hc : r = 0 ∨ r = 1 ∨ r = 2 ∨ r = 3 ∨ r = 4 ∨ r = 5 := by omega
    rcases hc with rfl | rfl | rfl | rfl | rfl | rfl <;> rfl
  · rw [List.getElem?_eq_none (by simp [size_madeCells]; omega), List.getElem?_eq_none (by rw [tflat_len]; omega)]
end st
theorem mach_box (l : List Int) (mp db : Nat) : st.mcells (st.S0 l) mp (.slice none 0 0) db = #[.int .u64 0, .int .u64 0, .int .u64 0, .int .u64 0, .int .u64 0, .int .u64 0, .int .u64 0, .int .u64 0, .int .u64 0, .int .u64 0, .int .u64 0, .int .u64 0, .int .u64 0, .int .u64 0, .int .u64 0, .int .u64 0, .int .u64 0, .int .u64 0, .int .u64 0, .int .u64 0, .int .u64 0, .int .u64 0, .int .u64 0, .int .u64 0, .int .u64 0, .int .u64 0, .int .u64 0, .int .u64 0, .int .u64 0, .int .u64 0, .int .u64 0, .int .u64 0, .int .u64 4294967296, .pointer (some ⟨mp, 0, none⟩), .slice none 0 0, .map (some db)] := rfl
/-- what New answers over a memory that there is -/
def MakePost (mp g : Nat) (l : List Int) (w : World) (e : Ending) (w' : World) : Prop :=
  ∃ p db, e = .returned (.tuple #[.pointer (some ⟨p, 0, none⟩), .int .i64 0]) ∧ w.heap.size ≤ p ∧ (∀ code, IsMach w' ⟨p, mp, g, db, none, 0, 0⟩ code (st.S0 l)) ∧ Below w.heap.size w w'
theorem make_any (w : World) (mp g : Nat) (l : List Int) (h : IsMem w mp g l) (hl : 0 < l.length) : Calls Tryz.prog 41 #[.pointer (some ⟨mp, 0, none⟩)] w (MakePost mp g l w) := by
  have HM := bl.hid h
  obtain ⟨cap, hcap, hc⟩ := h.cell
  have HS := bl.hid (size_any mp g l.length cap w hc)
  have HD := bl.hid (deeds_any w)
  have hl0 : ((l.length : Int) == 0) = false := beq_eq_false_iff_ne.2 (by omega)
  clear h hc
  go_enter Tryz.func41, Tryz.ntmps41
  go_wp2_with fail
  refine HS.out.mono ?_
  rintro e w0' ⟨rfl, rfl⟩
  go_wp2_with fail
  refine HD.out.mono ?_
  rintro e w1 ⟨b, rfl, hb, hmap, hbw⟩
  have HE : Hid (MakePost mp g l w (.returned (.tuple #[.pointer (some ⟨w1.heap.size, 0, none⟩), .int .i64 0])) (w1.alloc (.cells (st.mcells (st.S0 l) mp (.slice none 0 0) b) 69))) := bl.hid ⟨w1.heap.size, b, rfl, hbw.size, fun code =>
    ⟨heap_alloc_new _ _, (HM.out.keep hbw).keep (kt.below_row _), hmap.kept (Below.heap_alloc _ _ _ hmap.lt), .inl rfl, st.S0_ok l, fun k hk => absurd hk (Nat.not_lt_zero _), Nat.zero_le _⟩, hbw.alloc hbw.size _⟩
  rw [mach_box] at HE
  clear hmap hb hbw
  go_wp2
  go_ret2
  exact HE.out
end Go.Proofs.YtjjkocklpcdbkaaGreat
