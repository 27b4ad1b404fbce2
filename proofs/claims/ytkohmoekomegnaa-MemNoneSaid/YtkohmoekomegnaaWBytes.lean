/- Bytes: a word of bytes, the bytes of a word, in plain Lean; and what it means that a slice of bytes reads as a list. -/
import Derived.Test.YtkohmoekomegnaaWPlain
import Derived.Test.YtkohmoekomegnaaKit
import Derived.Laws.BytesArg
namespace Go.Proofs.Ytkohmoekomegnaa
open Go.RowKit
namespace wd
/-- the word of bytes, the lowest first -/
def leV : List Int → Int
  | [] => 0
  | b :: r => b + 256 * leV r
/-- the lowest n bytes of a word, the lowest first -/
def leB (x : Int) : Nat → List Int
  | 0 => []
  | n + 1 => x % 256 :: leB (x / 256) n
def isBytes (l : List Int) : Prop := ∀ z ∈ l, 0 ≤ z ∧ z < 256

theorem leB_length (n : Nat) : ∀ x : Int, (leB x n).length = n := by
  induction n with
  | zero => intro x; rfl
  | succ n ih => intro x; simp [leB, ih]
theorem leB_bytes (n : Nat) : ∀ x : Int, isBytes (leB x n) := by
  induction n with
  | zero => intro x z hz; cases hz
  | succ n ih =>
    intro x z hz
    rcases List.mem_cons.1 hz with rfl | h
    · omega
    · exact ih _ z h
theorem leV_append (l : List Int) (b : Int) : leV (l ++ [b]) = leV l + 256 ^ l.length * b := by
  induction l with
  | nil => simp [leV]
  | cons c r ih =>
    simp only [List.cons_append, leV, ih, List.length_cons, Int.pow_succ]
    rw [Int.mul_add, Int.mul_comm (256 ^ r.length) 256, Int.mul_assoc]
    omega
theorem leV_bd (l : List Int) (h : isBytes l) : 0 ≤ leV l ∧ leV l < 256 ^ l.length := by
  induction l with
  | nil => simp [leV]
  | cons c r ih =>
    have h1 := h c (by simp)
    have h2 := ih (fun z hz => h z (by simp [hz]))
    simp only [leV, List.length_cons, Int.pow_succ]
    omega
theorem pow256 (k : Nat) : (0 : Int) < 256 ^ k := Int.pow_pos (by decide)
theorem leB_snoc (n : Nat) : ∀ x : Int, leB x (n + 1) = leB x n ++ [x / 256 ^ n % 256] := by
  induction n with
  | zero => intro x; simp [leB]
  | succ n ih =>
    intro x
    rw [leB, ih (x / 256), leB, List.cons_append, Int.ediv_ediv_of_nonneg (by decide), Int.pow_succ, Int.mul_comm 256]
theorem leV_leB (n : Nat) : ∀ x : Int, leV (leB x n) = x % 256 ^ n := by
  induction n with
  | zero => intro x; simp [leB, leV]
  | succ n ih =>
    intro x
    rw [leB, leV, ih, Int.pow_succ]
    have hp := pow256 n
    have e1 : x % (256 ^ n * 256) = 256 * (x / 256 % 256 ^ n) + x % 256 := by
      rw [Int.mul_comm (256 ^ n) 256]
      have := Int.emod_emod_of_dvd
      rw [Int.emod_def x (256 * 256 ^ n), ← Int.ediv_ediv_of_nonneg (by decide), Int.emod_def (x / 256), Int.mul_sub, Int.emod_def x 256, Int.mul_assoc]
      omega
    rw [e1]
    omega
theorem leB_leV (l : List Int) (h : isBytes l) : leB (leV l) l.length = l := by
  induction l with
  | nil => rfl
  | cons c r ih =>
    have h1 := h c (by simp)
    have h2 := ih (fun z hz => h z (by simp [hz]))
    have e1 : (c + 256 * leV r) % 256 = c := by omega
    have e2 : (c + 256 * leV r) / 256 = leV r := by omega
    simp only [leV, List.length_cons, leB, e1, e2, h2]
theorem isBytes_take {l : List Int} (h : isBytes l) (k : Nat) : isBytes (l.take k) := fun z hz => h z (List.mem_of_mem_take hz)
theorem isBytes_drop {l : List Int} (h : isBytes l) (k : Nat) : isBytes (l.drop k) := fun z hz => h z (List.mem_of_mem_drop hz)
theorem isBytes_getD {l : List Int} (h : isBytes l) (k : Nat) : 0 ≤ l.getD k 0 ∧ l.getD k 0 < 256 := by
  by_cases hk : k < l.length
  · have e : l.getD k 0 = l[k] := by simp [List.getD, hk]
    rw [e]
    exact h _ (List.getElem_mem hk)
  · simp [List.getD, hk]
theorem leV_take (l : List Int) (k : Nat) (hk : k < l.length) : leV (l.take (k + 1)) = leV (l.take k) + 256 ^ k * l.getD k 0 := by
  rw [List.take_succ_eq_append_getElem hk, leV_append, List.length_take, Nat.min_eq_left (by omega)]
  simp [List.getD, hk]
theorem leV_drop (l : List Int) (k : Nat) (hk : k < l.length) : leV (l.drop k) = l.getD k 0 + 256 * leV (l.drop (k + 1)) := by
  rw [List.drop_eq_getElem_cons hk]
  simp [leV, List.getD, hk]
def dv (x : Int) (k : Nat) : Int := x / 256 ^ k
theorem dv_succ (x : Int) (k : Nat) : dv x (k + 1) = dv x k / 256 := by
  unfold dv
  rw [Int.pow_succ, Int.ediv_ediv_of_nonneg (Int.le_of_lt (pow256 k))]
theorem dv_bd (x : Int) (k : Nat) (x0 : 0 ≤ x) (x1 : x < 18446744073709551616) : 0 ≤ dv x k ∧ dv x k < 18446744073709551616 := by
  have hp := pow256 k
  unfold dv
  exact ⟨Int.ediv_nonneg x0 (Int.le_of_lt hp), Int.lt_of_le_of_lt (Int.ediv_le_self _ x0) x1⟩
def getV (l : List Int) : Int := if l.length = 1 ∨ l.length = 2 ∨ l.length = 4 ∨ l.length = 8 then leV l else 0
def getE (l : List Int) : Int := if 8 < l.length then 3 else if l.length = 1 ∨ l.length = 2 ∨ l.length = 4 ∨ l.length = 8 then 0 else 2
end wd
namespace kt
/-- a slice of bytes, by its address and length, reads as the list l -/
def Rd (w : World) (a : Option Addr) (n : Nat) (l : List Int) : Prop :=
  l.length = n ∧ wd.isBytes l ∧ (n = 0 ∨ ∃ b off, a = some ⟨b, off, none⟩ ∧ ∀ i, i < n → w.cell? ⟨b, off + i, none⟩ = some (.int .u8 (l.getD i 0)))

theorem Rd.convert {P : Program} {w : World} {a : Option Addr} {n : Nat} {l : List Int} (h : Rd w a n l) (src e dst : TypeId) (hs : P.underlying src = some (.slice e)) (he : P.underlying e = some (.int .u8)) (hd : P.underlying dst = some .string) (c : Nat) :
    (convert src dst (.slice a n c)).run P w = .ok (.string (strOfNums l)) w := by
  obtain ⟨h1, h2, h3⟩ := h
  rcases h3 with rfl | ⟨b, off, rfl, hc⟩
  · obtain rfl : l = [] := List.eq_nil_of_length_eq_zero h1
    cases a with
    | none => exact run_convert_bytes_nil w src e hs he 0 c dst hd
    | some ad =>
      rw [run_convert_bytes_string w src dst e _ 0 c hs he hd, run_bytesToString w ad 0 c [] rfl]
      rfl
  · exact run_convert_bytes_arg w src e hs he b off n c l h1 hc dst hd
theorem strOfNums_inj {l l' : List Int} (h : wd.isBytes l) (h' : wd.isBytes l') (e : strOfNums l = strOfNums l') : l = l' := by
  have e2 : l.map (fun n => UInt8.ofNat n.toNat) = l'.map (fun n => UInt8.ofNat n.toNat) := by
    have := congrArg (fun s : ByteArray => s.data.toList) e
    simpa [strOfNums] using this
  clear e
  induction l generalizing l' with
  | nil => cases l' with
    | nil => rfl
    | cons c r => simp at e2
  | cons c r ih => cases l' with
    | nil => simp at e2
    | cons c' r' =>
      simp only [List.map_cons, List.cons.injEq] at e2
      have b1 := h c (by simp)
      have b2 := h' c' (by simp)
      have e3 : c = c' := by
        have := congrArg UInt8.toNat e2.1
        simp at this
        omega
      rw [e3, ih (fun z hz => h z (by simp [hz])) (fun z hz => h' z (by simp [hz])) e2.2]
/-- the reading stays while old memory stays -/
theorem Rd.below {w w' : World} {B : Nat} {a : Option Addr} {n : Nat} {l : List Int} (h : Rd w a n l) (hb : Below B w w') (hB : ∀ ad, a = some ad → ad.block < B) : Rd w' a n l := by
  refine ⟨h.1, h.2.1, ?_⟩
  rcases h.2.2 with h0 | ⟨b, off, rfl, hc⟩
  · exact .inl h0
  · exact .inr ⟨b, off, rfl, fun i hi => (hb.cell (p := ⟨b, off + i, none⟩) (hB ⟨b, off, none⟩ rfl)).trans (hc i hi)⟩
theorem Rd.nil (w : World) (a : Option Addr) : Rd w a 0 [] := ⟨rfl, fun _ h => by simp at h, .inl rfl⟩
/-- a row of the call's own reads as its bytes -/
theorem Rd.own {w : World} {base e : Nat} {a : Option Addr} {c n : Nat} {l : List Int} (hl : wd.isBytes l) (h : w.ownsRow base e 1 (.slice a n c) n (l.map (Value.int .u8))) : Rd w a n l := by
  have hn : l.length = n := by simpa using h.1
  refine ⟨hn, hl, ?_⟩
  rcases h.2 with ⟨hv, h0⟩ | ⟨g, cap, cur, hv, hb, hg, r⟩
  · exact .inl h0
  · right
    simp only [Value.slice.injEq] at hv
    obtain ⟨rfl, -, rfl⟩ := hv
    refine ⟨g, 0, rfl, fun i hi => ?_⟩
    have := World.ownsRow.cells h (g := g) rfl i (.int .u8 (l.getD i 0)) (by simp [List.getD, hn, hi])
    have hadd : (⟨g, 0, none⟩ : Addr).add i = ⟨g, 0 + i, none⟩ := by unfold Addr.add; split <;> simp_all
    rw [hadd] at this
    exact this
end kt
end Go.Proofs.Ytkohmoekomegnaa
