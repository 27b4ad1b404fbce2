/- read's fields, in plain numbers. -/
import Derived.Test.YtbcflhpaafpndaaRvBut
import Derived.IntWalk
namespace Go.Proofs.Ytbcflhpaafpndaa
open Go.RowKit
set_option linter.unusedVariables false
namespace rv
/-- one more piece of a number -/
def stp (v x : Int) (p : Int × Int × Int) : Int := bits .or .i64 x (wrap64 (wrap64 (bits .and .u32 (v / 2 ^ p.2.2.toNat) ((2 ^ p.2.1.toNat - 1) % 4294967296)) * 2 ^ p.1.toNat))
/-- the number that pieces make -/
def acc (v : Int) (ps : List (Int × Int × Int)) : Int := ps.foldl (stp v) 0
def top (ps : List (Int × Int × Int)) : Int := ps.foldl (fun y p => max y (p.1 + p.2.1)) 0
theorem acc_snoc (v : Int) (ps : List (Int × Int × Int)) (m : Nat) (p : Int × Int × Int) (h : ps[m]? = some p) : acc v (ps.take (m + 1)) = stp v (acc v (ps.take m)) p := by
  unfold acc
  rw [List.take_add_one, h, List.foldl_append]
  rfl
theorem top_snoc (ps : List (Int × Int × Int)) (m : Nat) (p : Int × Int × Int) (h : ps[m]? = some p) : top (ps.take (m + 1)) = max (top (ps.take m)) (p.1 + p.2.1) := by
  unfold top
  rw [List.take_add_one, h, List.foldl_append]
  rfl
theorem piece_lt (v u k i : Nat) (h : k + i ≤ 21) : v / 2 ^ u % 2 ^ k * 2 ^ i < 2097152 := by
  have hm : v / 2 ^ u % 2 ^ k < 2 ^ k := Nat.mod_lt _ (Nat.two_pow_pos k)
  have h1 : v / 2 ^ u % 2 ^ k * 2 ^ i < 2 ^ k * 2 ^ i := Nat.mul_lt_mul_of_pos_right hm (Nat.two_pow_pos i)
  rw [← Nat.pow_add] at h1
  have h2 : 2 ^ (k + i) ≤ 2 ^ 21 := Nat.pow_le_pow_right (by omega) h
  exact Nat.lt_of_lt_of_le h1 h2
theorem mask_lt (k : Nat) (h : k ≤ 20) : 2 ^ k - 1 < 1048576 ∧ 0 < 2 ^ k := by
  have h2 : 2 ^ k ≤ 2 ^ 20 := Nat.pow_le_pow_right (by omega) h
  have h3 := Nat.two_pow_pos k
  have e : (2 : Nat) ^ 20 = 1048576 := rfl
  rw [e] at h2
  omega
theorem mask_int (k : Nat) (h : k ≤ 20) : ((2 ^ k - 1) % 4294967296 : Int) = ((2 ^ k - 1 : Nat) : Int) := by
  obtain ⟨h1, h2⟩ := mask_lt k h
  have e : ((2 : Int) ^ k) = ((2 ^ k : Nat) : Int) := by simp
  rw [e]
  generalize 2 ^ k = q at *
  omega
/-- a piece, in natural numbers -/
theorem stp_nat (v x u k i : Nat) (hv : v < 4294967296) (hx : x < 2097152) (hk : k ≤ 20) (hi : k + i ≤ 21) : stp v x (i, k, u) = ((x ||| v / 2 ^ u % 2 ^ k * 2 ^ i : Nat) : Int) := by
  unfold stp
  dsimp only
  simp only [Int.toNat_natCast]
  have h1 := piece_lt v u k i hi
  have h2 := piece_lt v u k 0 (by omega)
  rw [Nat.pow_zero, Nat.mul_one] at h2
  obtain ⟨m1, m2⟩ := mask_lt k hk
  have e2 : ((v : Int) / 2 ^ u) = ((v / 2 ^ u : Nat) : Int) := by simp
  have hm2 : 2 ^ k - 1 < 4294967296 := by clear h1 h2 e2 hv hx; omega
  have hv2 : v / 2 ^ u < 4294967296 := Nat.lt_of_le_of_lt (Nat.div_le_self _ _) hv
  rw [mask_int k hk, e2, u32_and_nat _ _ hv2 hm2, Nat.and_two_pow_sub_one_eq_mod]
  clear m1 m2 hm2 hv2 e2
  revert h1 h2
  generalize v / 2 ^ u % 2 ^ k = y
  intro h1 h2
  have w1 : wrap64 (y : Int) = y := IntWalk.wrap64_in _ (by clear h1; omega)
  have e3 : ((y : Int) * 2 ^ i) = ((y * 2 ^ i : Nat) : Int) := by simp
  rw [w1, e3]
  revert h1
  generalize y * 2 ^ i = z
  intro h1
  have w2 : wrap64 (z : Int) = z := IntWalk.wrap64_in _ (by omega)
  rw [w2, bl.i64_or_nat _ _ (by omega) (by omega)]
theorem stp_bd (v x : Int) (p : Int × Int × Int) (h0 : 0 ≤ v) (h1 : v < 4294967296) (x0 : 0 ≤ x) (x1 : x < 2097152) (hp : (0 ≤ p.1 ∧ p.1 ≤ 20) ∧ (1 ≤ p.2.1 ∧ p.2.1 ≤ 20) ∧ (0 ≤ p.2.2 ∧ p.2.2 ≤ 31) ∧ p.1 + p.2.1 ≤ 21) : 0 ≤ stp v x p ∧ stp v x p < 2097152 := by
  obtain ⟨p0, p1, p2⟩ := p
  dsimp only at hp
  obtain ⟨⟨a0, a1⟩, ⟨b0, b1⟩, ⟨c0, c1⟩, s⟩ := hp
  obtain ⟨i, rfl⟩ := Int.eq_ofNat_of_zero_le a0
  obtain ⟨k, rfl⟩ := Int.eq_ofNat_of_zero_le (by omega : 0 ≤ p1)
  obtain ⟨u, rfl⟩ := Int.eq_ofNat_of_zero_le c0
  obtain ⟨v, rfl⟩ := Int.eq_ofNat_of_zero_le h0
  obtain ⟨x, rfl⟩ := Int.eq_ofNat_of_zero_le x0
  rw [stp_nat v x u k i (by omega) (by omega) (by omega) (by omega)]
  have h := Nat.or_lt_two_pow (n := 21) (show x < 2 ^ 21 from by have e : (2 : Nat) ^ 21 = 2097152 := rfl; rw [e]; omega) (show v / 2 ^ u % 2 ^ k * 2 ^ i < 2 ^ 21 from piece_lt v u k i (by omega))
  have e : (2 : Nat) ^ 21 = 2097152 := rfl
  rw [e] at h
  generalize x ||| v / 2 ^ u % 2 ^ k * 2 ^ i = q at *
  omega
theorem acc_bd (v : Int) (h0 : 0 ≤ v) (h1 : v < 4294967296) (ps : List (Int × Int × Int)) (hp : ∀ p ∈ ps, (0 ≤ p.1 ∧ p.1 ≤ 20) ∧ (1 ≤ p.2.1 ∧ p.2.1 ≤ 20) ∧ (0 ≤ p.2.2 ∧ p.2.2 ≤ 31) ∧ p.1 + p.2.1 ≤ 21) :
    ∀ x : Int, 0 ≤ x → x < 2097152 → 0 ≤ ps.foldl (stp v) x ∧ ps.foldl (stp v) x < 2097152 := by
  induction ps with
  | nil => exact fun x a b => ⟨a, b⟩
  | cons p r ih =>
    intro x a b
    have := stp_bd v x p h0 h1 a b (hp p (by simp))
    exact ih (fun q hq => hp q (by simp [hq])) _ this.1 this.2
theorem top_bd (ps : List (Int × Int × Int)) (hp : ∀ p ∈ ps, (0 ≤ p.1 ∧ p.1 ≤ 20) ∧ (1 ≤ p.2.1 ∧ p.2.1 ≤ 20) ∧ (0 ≤ p.2.2 ∧ p.2.2 ≤ 31) ∧ p.1 + p.2.1 ≤ 21) :
    ∀ x : Int, 0 ≤ x → x ≤ 21 → x ≤ ps.foldl (fun y p => max y (p.1 + p.2.1)) x ∧ ps.foldl (fun y p => max y (p.1 + p.2.1)) x ≤ 21 := by
  induction ps with
  | nil => exact fun x a b => ⟨Int.le_refl _, b⟩
  | cons p r ih =>
    intro x a b
    have hq := hp p (by simp)
    have := ih (fun q hq => hp q (by simp [hq])) (max x (p.1 + p.2.1)) (by omega) (by omega)
    rw [List.foldl_cons]
    omega
theorem top_pos (p : Int × Int × Int) (r : List (Int × Int × Int)) (hp : ∀ q ∈ p :: r, (0 ≤ q.1 ∧ q.1 ≤ 20) ∧ (1 ≤ q.2.1 ∧ q.2.1 ≤ 20) ∧ (0 ≤ q.2.2 ∧ q.2.2 ≤ 31) ∧ q.1 + q.2.1 ≤ 21) : 1 ≤ top (p :: r) ∧ top (p :: r) ≤ 21 := by
  have hq := hp p (by simp)
  have := top_bd r (fun q hq => hp q (by simp [hq])) (max 0 (p.1 + p.2.1)) (by omega) (by omega)
  unfold top
  rw [List.foldl_cons]
  omega
/-- what a field of a word is -/
def fin (v lo : Int) (f : Fld) : Int := if f.k = 4 ∧ lo < 0 ∧ acc v f.ps / 2 ^ (top f.ps - 1).toNat = 1 then wrap64 (acc v f.ps - wrap64 (2 ^ (top f.ps).toNat)) else acc v f.ps
/-- an instruction's numbers, out of fields -/
def nums (v lo : Int) (fs : List Fld) : Nat → Int := fs.foldl (fun g f k => if k = f.k then fin v lo f else g k) (fun _ => 0)
theorem nums_snoc (v lo : Int) (fs : List Fld) (j : Nat) (f : Fld) (h : fs[j]? = some f) (k : Nat) : nums v lo (fs.take (j + 1)) k = if k = f.k then fin v lo f else nums v lo (fs.take j) k := by
  unfold nums
  rw [List.take_add_one, h, List.foldl_append]
  rfl
end rv
def readRow (op : Int) (g : Nat → Int) : Array Value := #[.int .i64 op, .int .i64 (g 1), .int .i64 (g 2), .int .i64 (g 3), .int .i64 (g 4)]
theorem readRow_succ (op v lo : Int) (fs : List rv.Fld) (j : Nat) (f : rv.Fld) (h : fs[j]? = some f) (hk : f.k = 1 ∨ f.k = 2 ∨ f.k = 3 ∨ f.k = 4) :
    readRow op (rv.nums v lo (fs.take (j + 1))) = (readRow op (rv.nums v lo (fs.take j))).setIfInBounds f.k (.int .i64 (rv.fin v lo f)) := by
  unfold readRow
  rw [rv.nums_snoc v lo fs j f h, rv.nums_snoc v lo fs j f h, rv.nums_snoc v lo fs j f h, rv.nums_snoc v lo fs j f h]
  rcases hk with hk | hk | hk | hk <;> simp [hk]
end Go.Proofs.Ytbcflhpaafpndaa
