/- Bytes: a word of bytes, the bytes of a word, in plain Lean; and what it means that a slice of bytes reads as a list. A slice that the call itself made, known with its spare room: all cells of its row have a property of ours. The law on append for it, over any program. Put and Get, the program's and the reference's, each by a contract. Get, the program's and the reference's; Put at no size; bytes compared: each by a contract. The statements' kit on bytes: a copy, what is lent, what is kept, what is written over: each by a contract. The memory layer: what a memory is in the heap; none and cut by contracts. -/
import Derived.Test.YtjjkocklpcdbkaaGreatGw
import Derived.Test.YtjjkocklpcdbkaaGreatKit
import Derived.Laws.BytesArg
import Derived.WalkKit
import Derived.Test.YtjjkocklpcdbkaaGreatRows
import Derived.Handy
import Derived.Lib.SliceRun
import Derived.WalkSpells
namespace Go.Proofs.YtjjkocklpcdbkaaGreat
open Go.RowKit
namespace wd
/-- the word of bytes, the lowest first -/
def leV : List Int → Int
  | [] => 0
  | b :: r => b + 256 * leV r
/-- the lowest n bytes of a word, the lowest first -/
def leB (x : Int) : Nat → List Int
  | 0 => []
  | n + 1 => x % 256 :: leB (x / 256) n
def isBytes (l : List Int) : Prop := ∀ z ∈ l, 0 ≤ z ∧ z < 256

theorem leB_length (n : Nat) : ∀ x : Int, (leB x n).length = n := by
  induction n with
  | zero => intro x; rfl
  | succ n ih => intro x; simp [leB, ih]
theorem leB_bytes (n : Nat) : ∀ x : Int, isBytes (leB x n) := by
  induction n with
  | zero => intro x z hz; cases hz
  | succ n ih =>
    intro x z hz
    rcases List.mem_cons.1 hz with rfl | h
    · omega
    · exact ih _ z h
theorem leV_append (l : List Int) (b : Int) : leV (l ++ [b]) = leV l + 256 ^ l.length * b := by
  induction l with
  | nil => simp [leV]
  | cons c r ih =>
    simp only [List.cons_append, leV, ih, List.length_cons, Int.pow_succ]
    rw [Int.mul_add, Int.mul_comm (256 ^ r.length) 256, Int.mul_assoc]
    omega
theorem leV_bd (l : List Int) (h : isBytes l) : 0 ≤ leV l ∧ leV l < 256 ^ l.length := by
  induction l with
  | nil => simp [leV]
  | cons c r ih =>
    have h1 := h c (by simp)
    have h2 := ih (fun z hz => h z (by simp [hz]))
    simp only [leV, List.length_cons, Int.pow_succ]
    omega
theorem pow256 (k : Nat) : (0 : Int) < 256 ^ k := Int.pow_pos (by decide)
theorem leB_snoc (n : Nat) : ∀ x : Int, leB x (n + 1) = leB x n ++ [x / 256 ^ n % 256] := by
  induction n with
  | zero => intro x; simp [leB]
  | succ n ih =>
    intro x
    rw [leB, ih (x / 256), leB, List.cons_append, Int.ediv_ediv_of_nonneg (by decide), Int.pow_succ, Int.mul_comm 256]
theorem leV_leB (n : Nat) : ∀ x : Int, leV (leB x n) = x % 256 ^ n := by
  induction n with
  | zero => intro x; simp [leB, leV]
  | succ n ih =>
    intro x
    rw [leB, leV, ih, Int.pow_succ]
    have hp := pow256 n
    have e1 : x % (256 ^ n * 256) = 256 * (x / 256 % 256 ^ n) + x % 256 := by
      rw [Int.mul_comm (256 ^ n) 256]
      have := Int.emod_emod_of_dvd
      rw [Int.emod_def x (256 * 256 ^ n), ← Int.ediv_ediv_of_nonneg (by decide), Int.emod_def (x / 256), Int.mul_sub, Int.emod_def x 256, Int.mul_assoc]
      omega
    rw [e1]
    omega
theorem leB_leV (l : List Int) (h : isBytes l) : leB (leV l) l.length = l := by
  induction l with
  | nil => rfl
  | cons c r ih =>
    have h1 := h c (by simp)
    have h2 := ih (fun z hz => h z (by simp [hz]))
    have e1 : (c + 256 * leV r) % 256 = c := by omega
    have e2 : (c + 256 * leV r) / 256 = leV r := by omega
    simp only [leV, List.length_cons, leB, e1, e2, h2]
theorem isBytes_take {l : List Int} (h : isBytes l) (k : Nat) : isBytes (l.take k) := fun z hz => h z (List.mem_of_mem_take hz)
theorem isBytes_drop {l : List Int} (h : isBytes l) (k : Nat) : isBytes (l.drop k) := fun z hz => h z (List.mem_of_mem_drop hz)
theorem isBytes_getD {l : List Int} (h : isBytes l) (k : Nat) : 0 ≤ l.getD k 0 ∧ l.getD k 0 < 256 := by
  by_cases hk : k < l.length
  · have e : l.getD k 0 = l[k] := by simp [List.getD, hk]
    rw [e]
    exact h _ (List.getElem_mem hk)
  · simp [List.getD, hk]
theorem leV_take (l : List Int) (k : Nat) (hk : k < l.length) : leV (l.take (k + 1)) = leV (l.take k) + 256 ^ k * l.getD k 0 := by
  rw [List.take_succ_eq_append_getElem hk, leV_append, List.length_take, Nat.min_eq_left (by omega)]
  simp [List.getD, hk]
theorem leV_drop (l : List Int) (k : Nat) (hk : k < l.length) : leV (l.drop k) = l.getD k 0 + 256 * leV (l.drop (k + 1)) := by
  rw [List.drop_eq_getElem_cons hk]
  simp [leV, List.getD, hk]
def dv (x : Int) (k : Nat) : Int := x / 256 ^ k
theorem dv_succ (x : Int) (k : Nat) : dv x (k + 1) = dv x k / 256 := by
  unfold dv
  rw [Int.pow_succ, Int.ediv_ediv_of_nonneg (Int.le_of_lt (pow256 k))]
theorem dv_bd (x : Int) (k : Nat) (x0 : 0 ≤ x) (x1 : x < 18446744073709551616) : 0 ≤ dv x k ∧ dv x k < 18446744073709551616 := by
  have hp := pow256 k
  unfold dv
  exact ⟨Int.ediv_nonneg x0 (Int.le_of_lt hp), Int.lt_of_le_of_lt (Int.ediv_le_self _ x0) x1⟩
def getV (l : List Int) : Int := if l.length = 1 ∨ l.length = 2 ∨ l.length = 4 ∨ l.length = 8 then leV l else 0
def getE (l : List Int) : Int := if 8 < l.length then 3 else if l.length = 1 ∨ l.length = 2 ∨ l.length = 4 ∨ l.length = 8 then 0 else 2
end wd
namespace kt
/-- a slice of bytes, by its address and length, reads as the list l -/
def Rd (w : World) (a : Option Addr) (n : Nat) (l : List Int) : Prop :=
  l.length = n ∧ wd.isBytes l ∧ (n = 0 ∨ ∃ b off, a = some ⟨b, off, none⟩ ∧ ∀ i, i < n → w.cell? ⟨b, off + i, none⟩ = some (.int .u8 (l.getD i 0)))

theorem Rd.convert {P : Program} {w : World} {a : Option Addr} {n : Nat} {l : List Int} (h : Rd w a n l) (src e dst : TypeId) (hs : P.underlying src = some (.slice e)) (he : P.underlying e = some (.int .u8)) (hd : P.underlying dst = some .string) (c : Nat) :
    (convert src dst (.slice a n c)).run P w = .ok (.string (strOfNums l)) w := by
  obtain ⟨h1, h2, h3⟩ := h
  rcases h3 with rfl | ⟨b, off, rfl, hc⟩
  · obtain rfl : l = [] := List.eq_nil_of_length_eq_zero h1
    cases a with
    | none => exact run_convert_bytes_nil w src e hs he 0 c dst hd
    | some ad =>
      rw [run_convert_bytes_string w src dst e _ 0 c hs he hd, run_bytesToString w ad 0 c [] rfl]
      rfl
  · exact run_convert_bytes_arg w src e hs he b off n c l h1 hc dst hd
theorem strOfNums_inj {l l' : List Int} (h : wd.isBytes l) (h' : wd.isBytes l') (e : strOfNums l = strOfNums l') : l = l' := by
  have e2 : l.map (fun n => UInt8.ofNat n.toNat) = l'.map (fun n => UInt8.ofNat n.toNat) := by
    have := congrArg (fun s : ByteArray => s.data.toList) e
    simpa [strOfNums] using this
  clear e
  induction l generalizing l' with
  | nil => cases l' with
    | nil => rfl
    | cons c r => simp at e2
  | cons c r ih => cases l' with
    | nil => simp at e2
    | cons c' r' =>
      simp only [List.map_cons, List.cons.injEq] at e2
      have b1 := h c (by simp)
      have b2 := h' c' (by simp)
      have e3 : c = c' := by
        have := congrArg UInt8.toNat e2.1
        simp at this
        omega
      rw [e3, ih (fun z hz => h z (by simp [hz])) (fun z hz => h' z (by simp [hz])) e2.2]
/-- the reading stays while old memory stays -/
theorem Rd.below {w w' : World} {B : Nat} {a : Option Addr} {n : Nat} {l : List Int} (h : Rd w a n l) (hb : Below B w w') (hB : ∀ ad, a = some ad → ad.block < B) : Rd w' a n l := by
  refine ⟨h.1, h.2.1, ?_⟩
  rcases h.2.2 with h0 | ⟨b, off, rfl, hc⟩
  · exact .inl h0
  · exact .inr ⟨b, off, rfl, fun i hi => (hb.cell (p := ⟨b, off + i, none⟩) (hB ⟨b, off, none⟩ rfl)).trans (hc i hi)⟩
theorem Rd.nil (w : World) (a : Option Addr) : Rd w a 0 [] := ⟨rfl, fun _ h => by simp at h, .inl rfl⟩
/-- a row of the call's own reads as its bytes -/
theorem Rd.own {w : World} {base e : Nat} {a : Option Addr} {c n : Nat} {l : List Int} (hl : wd.isBytes l) (h : w.ownsRow base e 1 (.slice a n c) n (l.map (Value.int .u8))) : Rd w a n l := by
  have hn : l.length = n := by simpa using h.1
  refine ⟨hn, hl, ?_⟩
  rcases h.2 with ⟨hv, h0⟩ | ⟨g, cap, cur, hv, hb, hg, r⟩
  · exact .inl h0
  · right
    simp only [Value.slice.injEq] at hv
    obtain ⟨rfl, -, rfl⟩ := hv
    refine ⟨g, 0, rfl, fun i hi => ?_⟩
    have := World.ownsRow.cells h (g := g) rfl i (.int .u8 (l.getD i 0)) (by simp [List.getD, hn, hi])
    have hadd : (⟨g, 0, none⟩ : Addr).add i = ⟨g, 0 + i, none⟩ := by unfold Addr.add; split <;> simp_all
    rw [hadd] at this
    exact this
end kt
end Go.Proofs.YtjjkocklpcdbkaaGreat
namespace Go.Proofs.YtjjkocklpcdbkaaGreat.kt
open Go.RowKit

/-- v, of n elements of 'size' cells each, begins at the head of a row from block B on (or is nil); its cells are xs; every cell of the row, the spare ones too, has the property p -/
def Own (p : Value → Prop) (w : World) (B : Nat) (e : TypeId) (size : Nat) (v : Value) (n : Nat) (xs : List Value) : Prop :=
  xs.length = n * size ∧
  ((v = .slice none 0 0 ∧ n = 0) ∨
   ∃ g cap, ∃ cur : List Value, v = .slice (some ⟨g, 0, none⟩) n cap ∧ B ≤ g ∧ w.heap[g]? = some (.cells cur.toArray e (0, 0)) ∧ n ≤ cap ∧ cap ≤ maxLen ∧ cur.length = cap * size ∧ cur.take (n * size) = xs ∧ ∀ c ∈ cur, p c)

theorem Own.nil (p : Value → Prop) (w : World) (B : Nat) (e : TypeId) (size : Nat) : Own p w B e size (.slice none 0 0) 0 [] := ⟨by simp, .inl ⟨rfl, rfl⟩⟩
theorem Own.row {p : Value → Prop} {w : World} {B e size n : Nat} {v : Value} {xs : List Value} (h : Own p w B e size v n xs) : w.ownsRow B e size v n xs := by
  refine ⟨h.1, ?_⟩
  rcases h.2 with h0 | ⟨g, cap, cur, h1, h2, h3, h4, h5, h6, h7, -⟩
  · exact .inl h0
  · exact .inr ⟨g, cap, cur.toArray, h1, h2, h3, h4, h5, by simpa using h6, by simpa using h7⟩
theorem Own.kept {p : Value → Prop} {w w' : World} {B e size n : Nat} {v : Value} {xs : List Value} (h : Own p w B e size v n xs) (hk : ∀ g, v.ownBlock = some g → w'.heap[g]? = w.heap[g]?) : Own p w' B e size v n xs := by
  refine ⟨h.1, ?_⟩
  rcases h.2 with h0 | ⟨g, cap, cur, rfl, h2, h3, r⟩
  · exact .inl h0
  · exact .inr ⟨g, cap, cur, rfl, h2, (hk g rfl).trans h3, r⟩
theorem Own.lt {p : Value → Prop} {w : World} {B e size n : Nat} {v : Value} {xs : List Value} (h : Own p w B e size v n xs) : ∀ g, v.ownBlock = some g → B ≤ g ∧ g < w.heap.size := h.row.lt
theorem Own.alloc {p : Value → Prop} {w : World} {B e size n : Nat} {v : Value} {xs : List Value} (h : Own p w B e size v n xs) (o : Obj) : Own p (w.alloc o) B e size v n xs :=
  h.kept fun g hg => heap_alloc_old w o (h.lt g hg).2
theorem Own.below {p : Value → Prop} {w w' : World} {B C e size n : Nat} {v : Value} {xs : List Value} (h : Own p w B e size v n xs) (hb : Below C w w') (hC : w.heap.size ≤ C) : Own p w' B e size v n xs :=
  h.kept fun g hg => hb.block g (Nat.lt_of_lt_of_le (h.lt g hg).2 hC)
theorem Own.grown {p : Value → Prop} {w w' : World} {B e size n : Nat} {v : Value} {xs : List Value} (h : Own p w B e size v n xs) {row : Option Nat} (hg : w.grownBy w' row) (hne : ∀ g, v.ownBlock = some g → some g ≠ row) : Own p w' B e size v n xs :=
  h.kept fun g hgg => hg.block g (h.lt g hgg).2 (hne g hgg)
theorem Own.mono {p : Value → Prop} {w : World} {B B' e size n : Nat} {v : Value} {xs : List Value} (h : Own p w B e size v n xs) (hB : B' ≤ B) : Own p w B' e size v n xs := by
  refine ⟨h.1, ?_⟩
  rcases h.2 with h0 | ⟨g, cap, cur, h1, h2, r⟩
  · exact .inl h0
  · exact .inr ⟨g, cap, cur, h1, Nat.le_trans hB h2, r⟩

theorem mem_zeroCells {z : Array Value} {n : Nat} {c : Value} (h : c ∈ (Builtin.zeroCells z n).toList) : c ∈ z.toList := by
  simp only [Builtin.zeroCells, Array.toList_map, List.mem_map] at h
  obtain ⟨i, hi, rfl⟩ := h
  have hi' : i < n * z.size := by simpa using hi
  have hp : 0 < z.size := Nat.pos_of_ne_zero fun e => by simp [e] at hi'
  have hm := Nat.mod_lt i hp
  rw [getElem!_pos z (i % z.size) hm]
  exact Array.getElem_mem_toList hm

theorem Own.shape {p : Value → Prop} {w : World} {B e size n : Nat} {v : Value} {xs : List Value} (h : Own p w B e size v n xs) : ∃ a c, v = .slice a n c := by
  rcases h.2 with ⟨rfl, rfl⟩ | ⟨g, cap, cur, rfl, r⟩
  · exact ⟨none, 0, rfl⟩
  · exact ⟨_, _, rfl⟩
theorem one_new (w : World) (v : Value) (e : TypeId) : ∀ j u, [v][j]? = some u → (w.alloc (.cells #[v] e)).cell? ((⟨w.heap.size, 0, none⟩ : Addr).add j) = some u := by
  intro j u hu
  match j, hu with
  | 0, hu =>
    simp at hu
    subst hu
    simp [Addr.add]
theorem Own.below_grown {p : Value → Prop} {w0 w w' : World} {B e size n : Nat} {v : Value} {xs : List Value} (h : Own p w B e size v n xs) (hb : Below B w0 w) (hB : B ≤ w.heap.size) (hg : w.grownBy w' v.ownBlock) : Below B w0 w' :=
  hb.grown hg hB fun k hk => (h.lt k hk).1
/-- a byte's cell -/
def IsU8 (c : Value) : Prop := ∃ z : Int, 0 ≤ z ∧ z < 256 ∧ c = .int .u8 z

variable {P : Program}

theorem run_append_Own (p : Value → Prop) (w : World) (B : Nat) (t ty e : TypeId) (i : TypeInfo) (z : Value) (size bytes : Nat) (ht : P.underlying t = some (.slice e)) (hi : P.info? e = some i) (hz : i.zero = some z)
    (hsize : i.size = size) (hby : i.bytes = bytes) (hzs : z.cells.size = size) (hzp : ∀ c ∈ z.cells.toList, p c)
    (v : Value) (n : Nat) (xs : List Value) (hown : Own p w B e size v n xs)
    (a : Addr) (m c : Nat) (news : List Value) (hl : news.length = m * size) (hnews : ∀ j u, news[j]? = some u → w.cell? (a.add j) = some u) (h1 : ∀ u ∈ news, u.oneCell' = true) (hnp : ∀ u ∈ news, p u)
    (h63 : n + m ≤ maxLen) (hbytes : (n + m) * bytes ≤ 140737488355328) (hbase : B ≤ w.heap.size) :
    ∃ v' w', (Builtin.append_ #[t, t] ty #[v, .slice (some a) m c]).run P w = .ok v' w' ∧ Own p w' B e size v' (n + m) (xs ++ news) ∧ w.grownBy w' v.ownBlock := by
  subst hsize
  subst hby
  have hsmall : n + m ≤ 9223372036854775807 := by simp only [maxLen] at h63; omega
  have hlen : (xs ++ news).length = (n + m) * i.size := by rw [List.length_append, hown.1, hl, Nat.add_mul]
  have fresh : ∀ (old : Nat), old < n + m → (∀ u ∈ xs, p u) → ∀ row : Option Nat,
      Own p (w.drew.alloc (.cells (xs.toArray ++ news.toArray ++ Builtin.zeroCells z.cells (grownCap w (n + m) old e - (n + m))) e)) B e i.size
        (.slice (some ⟨w.heap.size, 0, none⟩) (n + m) (grownCap w (n + m) old e)) (n + m) (xs ++ news) ∧
      w.grownBy (w.drew.alloc (.cells (xs.toArray ++ news.toArray ++ Builtin.zeroCells z.cells (grownCap w (n + m) old e - (n + m))) e)) row := by
    intro old ho hxp row
    have hge := grownCap_ge w (n + m) old e
    refine ⟨⟨hlen, .inr ⟨w.heap.size, _, (xs.toArray ++ news.toArray ++ Builtin.zeroCells z.cells (grownCap w (n + m) old e - (n + m))).toList, rfl, hbase, ?_, hge, grownCap_le_maxLen w (n + m) old e h63, ?_, ?_, ?_⟩⟩,
      ⟨rfl, rfl, rfl, by simp, fun k hk _ => heap_alloc_old w.drew _ hk⟩⟩
    · rw [Array.toArray_toList]
      exact heap_alloc_new w.drew _
    · rw [Array.length_toList, Array.size_append, Array.size_append, size_zeroCells, hzs, List.size_toArray, List.size_toArray, ← List.length_append, hlen, ← Nat.add_mul]
      congr 1
      omega
    · rw [Array.toList_append, Array.toList_append, ← hlen]
      exact List.take_left
    · intro c hc
      rw [Array.toList_append, Array.toList_append] at hc
      rcases List.mem_append.1 hc with hc | hc
      · rcases List.mem_append.1 hc with hc | hc
        · exact hxp c hc
        · exact hnp c hc
      · exact hzp c (mem_zeroCells hc)
  rcases hown.2 with ⟨rfl, rfl⟩ | ⟨g, cap, cur, rfl, hBg, hg, hnc, hcm, hcs, htake, hcp⟩
  · have hx : xs = [] := List.eq_nil_of_length_eq_zero (by simpa using hown.1)
    subst hx
    by_cases hm : m = 0
    · subst hm
      have hn : news = [] := List.eq_nil_of_length_eq_zero (by simpa using hl)
      subst hn
      refine ⟨.slice none 0 0, w, ?_, Own.nil p w B e i.size, ⟨rfl, rfl, rfl, Nat.le_refl _, fun _ _ _ => rfl⟩⟩
      simp [Builtin.append_, run_underlying ht, sizeOf, typeInfo, hi, Builtin.lenOf, Builtin.firstCells, loadCells, loadCellsFrom]
    · have hr := run_append_nil (P := P) w t ty e i z ht hi hz a m c news hl hnews (by omega) (by omega) (by have hb := hbytes; simp only [Nat.zero_add] at hb; omega)
      have hf := fresh 0 (by omega) (fun u hu => by cases hu) (Value.ownBlock (.slice none 0 0))
      simp only [Nat.zero_add, List.nil_append, Array.empty_append] at hf ⊢
      exact ⟨_, _, hr, hf.1, hf.2⟩
  · have hxp : ∀ u ∈ xs, p u := fun u hu => hcp u (by rw [← htake] at hu; exact List.mem_of_mem_take hu)
    by_cases hroom : n + m ≤ cap
    · have hfit : n * i.size + news.length ≤ cur.toArray.size := by rw [hl, List.size_toArray, hcs, ← Nat.add_mul]; exact Nat.mul_le_mul_right _ hroom
      have hr := run_append_room (P := P) w t ty e i ht hi g n cap cur.toArray hg a m c news hl hnews h1 hroom hfit
      refine ⟨_, _, hr, ⟨hlen, .inr ⟨g, cap, _, rfl, hBg, setRow_heap w g cur.toArray _ e _ hg, hroom, hcm, ?_, ?_, ?_⟩⟩, ⟨rfl, rfl, rfl, by simp, fun k _ hk => setRow_other w g k _ (fun e => hk (by simp [Value.ownBlock, e]))⟩⟩
      · simp only [List.length_append, List.length_take, List.length_drop, List.size_toArray] at hfit ⊢
        omega
      · show List.take _ (cur.take (n * i.size) ++ news ++ _) = _
        rw [htake, ← hlen]
        exact List.take_left
      · intro c hc
        rcases List.mem_append.1 hc with hc | hc
        · rcases List.mem_append.1 hc with hc | hc
          · exact hcp c (List.mem_of_mem_take hc)
          · exact hnp c hc
        · exact hcp c (List.mem_of_mem_drop hc)
    · have holds : ∀ j u, xs[j]? = some u → w.cell? ((⟨g, 0, none⟩ : Addr).add j) = some u := hown.row.cells (g := g) rfl
      have hr := run_append_grow (P := P) w t ty e i z ht hi hz ⟨g, 0, none⟩ n cap xs hown.1 holds a m c news hl hnews (by omega) (by omega) (growslice_fits (by omega) hbytes)
      have hf := fresh cap (by omega) hxp (Value.ownBlock (.slice (some ⟨g, 0, none⟩) n cap))
      exact ⟨_, _, hr, hf.1, hf.2⟩

theorem wpList_append_Own {w : World} {ops : Array Oper} {rest : List Oper} {o : Oper} {a : Act} {Q : Exit → Act → World → Prop} (p : Value → Prop) (hgd : o.guard = none) (s x : Operand) (t : TypeId)
    (ho : o.op = .call { callee := .builtin .append, args := #[s, x], argTypes := #[t, t] })
    (B : Nat) (e : TypeId) (i : TypeInfo) (z : Value) (size bytes : Nat) (ht : P.underlying t = some (.slice e)) (hi : P.info? e = some i) (hz : i.zero = some z)
    (hsize : i.size = size) (hby : i.bytes = bytes) (hzs : z.cells.size = size) (hzp : ∀ c ∈ z.cells.toList, p c)
    (v : Value) (n : Nat) (xs : List Value) (hs : a.eval s = v) (hown : Own p w B e size v n xs)
    (ad : Addr) (m c : Nat) (news : List Value) (hx : a.eval x = .slice (some ad) m c) (hl : news.length = m * size) (hnews : ∀ j u, news[j]? = some u → w.cell? (ad.add j) = some u) (h1 : ∀ u ∈ news, u.oneCell' = true) (hnp : ∀ u ∈ news, p u)
    (h63 : n + m ≤ maxLen) (hbytes : (n + m) * bytes ≤ 140737488355328) (hbase : B ≤ w.heap.size)
    (h : ∀ v' w', Own p w' B e size v' (n + m) (xs ++ news) → w.grownBy w' v.ownBlock → wpList P ops Q rest (a.put o.dst v') w') : wpList P ops Q (o :: rest) a w :=
  wpList_plain hgd fun _ hK => by
    obtain ⟨v', w', hr, h2, h3⟩ := run_append_Own (P := P) p w B t o.type e i z size bytes ht hi hz hsize hby hzs hzp v n xs hown ad m c news hl hnews h1 hnp h63 hbytes hbase
    unfold Oper.wp execOp
    simp only [ho, resolve, invoke, builtin, Sem.run_bind, Sem.run_pure, Result.andThen_ok, List.map_toArray, List.map_cons, List.map_nil, hs, hx, hr]
    exact hK _ _ (h v' w' h2 h3)
end Go.Proofs.YtjjkocklpcdbkaaGreat.kt
namespace Go.Proofs.YtjjkocklpcdbkaaGreat
open Go.RowKit
set_option linter.unusedVariables false
set_option maxRecDepth 100000

theorem u8_info : (Tryz.prog.info? 5).map (fun i => (i.zero, i.size, i.bytes)) = some (some (.int .u8 0), 1, 1) := by kernel_rfl
/-- bytes in new memory -/
def BytesPost (l : List Int) (w : World) (e : Ending) (w' : World) : Prop :=
  ∃ a c, e = .returned (.tuple #[.slice a l.length c, .int .i64 0]) ∧ kt.Own kt.IsU8 w' w.heap.size 5 1 (.slice a l.length c) l.length (l.map (Value.int .u8)) ∧ Below w.heap.size w w'
theorem zero_u8 : ∀ c ∈ (Value.int .u8 0).cells.toList, kt.IsU8 c := by
  intro c hc
  simp [Value.cells] at hc
  exact ⟨0, by decide, by decide, hc⟩
theorem one_u8 {z : Int} (h0 : 0 ≤ z) (h1 : z < 256) : ∀ u ∈ [Value.int .u8 z], kt.IsU8 u := by
  intro u hu
  simp at hu
  exact ⟨z, h0, h1, hu⟩
theorem one_cell (k : IntKind) (z : Int) : ∀ u ∈ [Value.int k z], u.oneCell' = true := by
  intro u hu
  simp at hu
  subst hu
  rfl
theorem two_pow8 (k : Nat) : (2 : Int) ^ (8 * k) = 256 ^ k := by
  rw [Int.pow_mul]
  rfl
set_option maxHeartbeats 400000 in
theorem put1 (x : Int) (w : World) (x0 : 0 ≤ x) (x1 : x < 18446744073709551616) : Calls Tryz.prog 120 #[.int .u64 x, .int .i64 1] w (BytesPost (wd.leB x 1) w) := by
  obtain ⟨i0, hi, hz0, hz1, hz2⟩ := info_parts u8_info
  have hby : IntKind.u8.wrap x = x % 256 := IntKind.wrap_u8' x
  have hby2 : IntKind.u8.wrap (x % 256) = x % 256 := by rw [IntKind.wrap_u8']; omega
  have hnil := kt.Own.nil kt.IsU8 w w.heap.size 5 1
  go_enter Tryz.func120, Tryz.ntmps120
  go_wp2
  refine wp_loop_rounds 2 ?_
  rw [rounds_succ]
  go_wp2_with (at_builtin; refine kt.wpList_append_Own kt.IsU8 rfl _ _ 25 rfl w.heap.size 5 i0 (.int .u8 0) 1 1 Tryz.underlying25 hi hz0 hz1 hz2 rfl zero_u8 _ _ _ rfl (hnil.alloc _) ⟨w.heap.size, 0, none⟩ 1 1 [.int .u8 (x % 256)] rfl rfl (kt.one_new _ _ _) (one_cell _ _) (one_u8 (by omega) (by omega)) (by unfold maxLen; omega) (by omega) (by simp) ?_)
  intro v' w1 hown' hgrow
  have hB1 := (hnil.alloc _).below_grown (kt.below_row _) (by simp) hgrow
  have hR : kt.Own kt.IsU8 w1 w.heap.size 5 1 v' 1 ((wd.leB x 1).map (Value.int .u8)) := hown'
  clear hown' hgrow hnil
  go_wp2
  rw [rounds_succ]
  go_wp2
  go_ret2
  obtain ⟨a, c, hv⟩ := hR.shape
  exact ⟨a, c, bl.ret2 (by exact hv) rfl, by rw [wd.leB_length, ← hv]; exact hR, hB1⟩
set_option maxHeartbeats 400000 in
theorem put2 (x : Int) (w : World) (x0 : 0 ≤ x) (x1 : x < 18446744073709551616) : Calls Tryz.prog 120 #[.int .u64 x, .int .i64 2] w (BytesPost (wd.leB x 2) w) := by
  obtain ⟨i0, hi, hz0, hz1, hz2⟩ := info_parts u8_info
  go_enter Tryz.func120, Tryz.ntmps120
  go_wp2
  go_loopw [6, 12] (fun v i wr => ∃ k : Nat, k ≤ 2 ∧ i = .int .i64 k ∧ kt.Own kt.IsU8 wr w.heap.size 5 1 v k ((wd.leB x k).map (Value.int .u8)) ∧ Below w.heap.size w wr) (fun _ i _ => 2 - (intOf i).toNat)
  case atStart => exact ⟨0, by omega, rfl, kt.Own.nil _ _ _ _ _, Below.refl _ _⟩
  case round =>
    obtain ⟨k, hk, rfl, hown, hb⟩ := hrel
    have hby : IntKind.u8.wrap (x / 2 ^ (8 * k)) = x / 256 ^ k % 256 := by rw [IntKind.wrap_u8', two_pow8]
    have hsz := hb.size
    by_cases hlt : k < 2
    · have hd : decide ((k : Int) < 2) = true := decide_eq_true (by omega)
      have HL := bl.hid hlt
      clear hlt
      go_wp2_with (at_builtin; refine kt.wpList_append_Own kt.IsU8 rfl _ _ 25 rfl w.heap.size 5 i0 (.int .u8 0) 1 1 Tryz.underlying25 hi hz0 hz1 hz2 rfl zero_u8 _ _ _ rfl (hown.alloc _) ⟨wr.heap.size, 0, none⟩ 1 1 [.int .u8 (x / 256 ^ k % 256)] rfl rfl (kt.one_new _ _ _) (one_cell _ _) (one_u8 (by omega) (by omega)) (by unfold maxLen; omega) (by omega) (by simp; omega) ?_)
      intro v' w1 hown' hgrow
      have hB1 := (hown.alloc _).below_grown (hb.alloc hsz _) (by simp; omega) hgrow
      have hR : kt.Own kt.IsU8 w1 w.heap.size 5 1 v' (k + 1) ((wd.leB x (k + 1)).map (Value.int .u8)) := by
        rw [wd.leB_snoc, List.map_append]
        exact hown'
      clear hown' hgrow hown hb
      go_wp2
      go_roundw
      case rel => first | exact ⟨k + 1, HL.out, by go_num, hR, hB1⟩ | ((repeat apply Exists.intro); exact ⟨⟨k + 1, HL.out, by go_num, hR, hB1⟩, rfl⟩)
      case measure => have := HL.out; simp [intOf]; omega
    · obtain rfl : k = 2 := by omega
      go_wp2
      go_ret2
      obtain ⟨a, c, hv⟩ := hown.shape
      exact ⟨a, c, bl.ret2 (by exact hv) rfl, by rw [wd.leB_length, ← hv]; exact hown, hb⟩
set_option maxHeartbeats 400000 in
theorem put4 (x : Int) (w : World) (x0 : 0 ≤ x) (x1 : x < 18446744073709551616) : Calls Tryz.prog 120 #[.int .u64 x, .int .i64 4] w (BytesPost (wd.leB x 4) w) := by
  obtain ⟨i0, hi, hz0, hz1, hz2⟩ := info_parts u8_info
  go_enter Tryz.func120, Tryz.ntmps120
  go_wp2
  go_loopw [6, 12] (fun v i wr => ∃ k : Nat, k ≤ 4 ∧ i = .int .i64 k ∧ kt.Own kt.IsU8 wr w.heap.size 5 1 v k ((wd.leB x k).map (Value.int .u8)) ∧ Below w.heap.size w wr) (fun _ i _ => 4 - (intOf i).toNat)
  case atStart => exact ⟨0, by omega, rfl, kt.Own.nil _ _ _ _ _, Below.refl _ _⟩
  case round =>
    obtain ⟨k, hk, rfl, hown, hb⟩ := hrel
    have hby : IntKind.u8.wrap (x / 2 ^ (8 * k)) = x / 256 ^ k % 256 := by rw [IntKind.wrap_u8', two_pow8]
    have hsz := hb.size
    by_cases hlt : k < 4
    · have hd : decide ((k : Int) < 4) = true := decide_eq_true (by omega)
      have HL := bl.hid hlt
      clear hlt
      go_wp2_with (at_builtin; refine kt.wpList_append_Own kt.IsU8 rfl _ _ 25 rfl w.heap.size 5 i0 (.int .u8 0) 1 1 Tryz.underlying25 hi hz0 hz1 hz2 rfl zero_u8 _ _ _ rfl (hown.alloc _) ⟨wr.heap.size, 0, none⟩ 1 1 [.int .u8 (x / 256 ^ k % 256)] rfl rfl (kt.one_new _ _ _) (one_cell _ _) (one_u8 (by omega) (by omega)) (by unfold maxLen; omega) (by omega) (by simp; omega) ?_)
      intro v' w1 hown' hgrow
      have hB1 := (hown.alloc _).below_grown (hb.alloc hsz _) (by simp; omega) hgrow
      have hR : kt.Own kt.IsU8 w1 w.heap.size 5 1 v' (k + 1) ((wd.leB x (k + 1)).map (Value.int .u8)) := by
        rw [wd.leB_snoc, List.map_append]
        exact hown'
      clear hown' hgrow hown hb
      go_wp2
      go_roundw
      case rel => first | exact ⟨k + 1, HL.out, by go_num, hR, hB1⟩ | ((repeat apply Exists.intro); exact ⟨⟨k + 1, HL.out, by go_num, hR, hB1⟩, rfl⟩)
      case measure => have := HL.out; simp [intOf]; omega
    · obtain rfl : k = 4 := by omega
      go_wp2
      go_ret2
      obtain ⟨a, c, hv⟩ := hown.shape
      exact ⟨a, c, bl.ret2 (by exact hv) rfl, by rw [wd.leB_length, ← hv]; exact hown, hb⟩
set_option maxHeartbeats 400000 in
theorem put8 (x : Int) (w : World) (x0 : 0 ≤ x) (x1 : x < 18446744073709551616) : Calls Tryz.prog 120 #[.int .u64 x, .int .i64 8] w (BytesPost (wd.leB x 8) w) := by
  obtain ⟨i0, hi, hz0, hz1, hz2⟩ := info_parts u8_info
  go_enter Tryz.func120, Tryz.ntmps120
  go_wp2
  go_loopw [6, 12] (fun v i wr => ∃ k : Nat, k ≤ 8 ∧ i = .int .i64 k ∧ kt.Own kt.IsU8 wr w.heap.size 5 1 v k ((wd.leB x k).map (Value.int .u8)) ∧ Below w.heap.size w wr) (fun _ i _ => 8 - (intOf i).toNat)
  case atStart => exact ⟨0, by omega, rfl, kt.Own.nil _ _ _ _ _, Below.refl _ _⟩
  case round =>
    obtain ⟨k, hk, rfl, hown, hb⟩ := hrel
    have hby : IntKind.u8.wrap (x / 2 ^ (8 * k)) = x / 256 ^ k % 256 := by rw [IntKind.wrap_u8', two_pow8]
    have hsz := hb.size
    by_cases hlt : k < 8
    · have hd : decide ((k : Int) < 8) = true := decide_eq_true (by omega)
      have HL := bl.hid hlt
      clear hlt
      go_wp2_with (at_builtin; refine kt.wpList_append_Own kt.IsU8 rfl _ _ 25 rfl w.heap.size 5 i0 (.int .u8 0) 1 1 Tryz.underlying25 hi hz0 hz1 hz2 rfl zero_u8 _ _ _ rfl (hown.alloc _) ⟨wr.heap.size, 0, none⟩ 1 1 [.int .u8 (x / 256 ^ k % 256)] rfl rfl (kt.one_new _ _ _) (one_cell _ _) (one_u8 (by omega) (by omega)) (by unfold maxLen; omega) (by omega) (by simp; omega) ?_)
      intro v' w1 hown' hgrow
      have hB1 := (hown.alloc _).below_grown (hb.alloc hsz _) (by simp; omega) hgrow
      have hR : kt.Own kt.IsU8 w1 w.heap.size 5 1 v' (k + 1) ((wd.leB x (k + 1)).map (Value.int .u8)) := by
        rw [wd.leB_snoc, List.map_append]
        exact hown'
      clear hown' hgrow hown hb
      go_wp2
      go_roundw
      case rel => first | exact ⟨k + 1, HL.out, by go_num, hR, hB1⟩ | ((repeat apply Exists.intro); exact ⟨⟨k + 1, HL.out, by go_num, hR, hB1⟩, rfl⟩)
      case measure => have := HL.out; simp [intOf]; omega
    · obtain rfl : k = 8 := by omega
      go_wp2
      go_ret2
      obtain ⟨a, c, hv⟩ := hown.shape
      exact ⟨a, c, bl.ret2 (by exact hv) rfl, by rw [wd.leB_length, ← hv]; exact hown, hb⟩
end Go.Proofs.YtjjkocklpcdbkaaGreat
namespace Go.Proofs.YtjjkocklpcdbkaaGreat
open Go.RowKit
set_option linter.unusedVariables false
set_option maxRecDepth 100000

theorem get_step (X c : Int) (k : Nat) (hk : k < 8) (X0 : 0 ≤ X) (X1 : X < 256 ^ k) (c0 : 0 ≤ c) (c1 : c < 256) :
    bits .or .u64 X (IntKind.u64.wrap (IntKind.u64.wrap c * 2 ^ (8 * k))) = X + 256 ^ k * c := by
  obtain ⟨x, rfl⟩ := Int.eq_ofNat_of_zero_le X0
  obtain ⟨d, rfl⟩ := Int.eq_ofNat_of_zero_le c0
  have hp : (2 : Int) ^ (8 * k) = 256 ^ k := two_pow8 k
  have hq : (256 : Int) ^ k = ((256 ^ k : Nat) : Int) := by simp
  have hq2 : (256 : Nat) ^ k = 2 ^ (8 * k) := by rw [Nat.pow_mul]
  have hx : x < 256 ^ k := by rw [hq] at X1; exact_mod_cast X1
  have hm : 256 ^ k * d < 18446744073709551616 := by
    have h1 : 256 ^ k ≤ 256 ^ 7 := Nat.pow_le_pow_right (by decide) (by omega)
    have h2 : 256 ^ k * d ≤ 256 ^ 7 * 255 := Nat.mul_le_mul h1 (by omega)
    have h3 : (256 : Nat) ^ 7 * 255 = 18374686479671623680 := by decide
    omega
  have hX : x < 18446744073709551616 := by
    have h1 : 256 ^ k ≤ 256 ^ 7 := Nat.pow_le_pow_right (by decide) (by omega)
    have h3 : (256 : Nat) ^ 7 = 72057594037927936 := by decide
    omega
  have e1 : IntKind.u64.wrap ((d : Nat) : Int) = (d : Int) := by rw [IntKind.wrap_u64]; omega
  have e2 : IntKind.u64.wrap (((d : Nat) : Int) * 2 ^ (8 * k)) = ((256 ^ k * d : Nat) : Int) := by
    rw [IntKind.wrap_u64, hp, hq, ← Int.natCast_mul, Nat.mul_comm d]
    omega
  rw [e1, e2, u64_or_nat _ _ hX hm, Nat.or_comm, nat_join (8 * k) (256 ^ k * d) x (by rw [hq2]; exact Nat.mul_mod_right _ _) (by rw [← hq2]; exact hx), hq, ← Int.natCast_mul]
  omega
theorem leV_bd8 (l : List Int) (h : wd.isBytes l) (hn : l.length ≤ 8) : 0 ≤ wd.leV l ∧ wd.leV l < 18446744073709551616 := by
  have h1 := wd.leV_bd l h
  have h2 : (256 : Nat) ^ l.length ≤ 256 ^ 8 := Nat.pow_le_pow_right (by decide) hn
  have h3 : (256 : Nat) ^ 8 = 18446744073709551616 := rfl
  have h4 : (256 : Int) ^ l.length = ((256 ^ l.length : Nat) : Int) := by rw [Int.natCast_pow]; rfl
  rw [h4] at h1
  omega
theorem get1 (a : Option Addr) (c : Nat) (l : List Int) (w : World) (h : kt.Rd w a 1 l) : Calls Tryz.prog 47 #[.slice a 1 c] w fun e w' => e = .returned (.tuple #[.int .u64 (wd.leV l), .int .i64 0]) ∧ w = w' := by
  obtain ⟨h1, hb, h3⟩ := h
  rcases h3 with h3 | ⟨b, off, rfl, hc⟩
  · cases h3
  obtain ⟨d, rfl⟩ : ∃ d, l = [d] := by
    match l, h1 with
    | [d], _ => exact ⟨d, rfl⟩
  have hcell : w.cell? ⟨b, off, none⟩ = some (.int .u8 d) := hc 0 (by omega)
  have hst : bits .or .u64 0 (IntKind.u64.wrap d) = d := by
    have := get_step 0 d 0 (by omega) (by omega) (by simp) (hb d (by simp)).1 (hb d (by simp)).2
    have e := (hb d (by simp))
    rw [show IntKind.u64.wrap d = d by rw [IntKind.wrap_u64]; omega] at this ⊢
    simpa [show IntKind.u64.wrap d = d by rw [IntKind.wrap_u64]; omega] using this
  have hv : wd.leV [d] = d := by simp [wd.leV]
  have d0 := (hb d (by simp)).1
  have d1 := (hb d (by simp)).2
  rw [show IntKind.u64.wrap d = d by rw [IntKind.wrap_u64]; omega] at hst
  rw [hv]
  clear hc hb h1 hv
  go_enter Tryz.func47, Tryz.ntmps47
  go_wp2
  refine wp_loop_rounds 2 ?_
  rw [rounds_succ]
  go_wp2
  rw [rounds_succ]
  go_wp2
  go_ret2
  exact ⟨rfl, rfl⟩
set_option maxHeartbeats 400000 in
theorem get2 (a : Option Addr) (c : Nat) (l : List Int) (w : World) (h : kt.Rd w a 2 l) : Calls Tryz.prog 47 #[.slice a 2 c] w fun e w' => e = .returned (.tuple #[.int .u64 (wd.leV l), .int .i64 0]) ∧ w = w' := by
  obtain ⟨h1, hb, h3⟩ := h
  rcases h3 with h3 | ⟨b, off, rfl, hc⟩
  · cases h3
  have hc' := bl.hid hc
  have hb' := bl.hid hb
  have h1' := bl.hid h1
  clear hc hb h1
  go_enter Tryz.func47, Tryz.ntmps47
  go_wp2
  go_loop [4, 18] (fun x i => ∃ k : Nat, k ≤ 2 ∧ i = .int .i64 k ∧ x = .int .u64 (wd.leV (l.take k))) (fun _ i => (2 - intOf i).toNat)
  case atStart => exact ⟨0, by omega, rfl, rfl⟩
  case round =>
    obtain ⟨k, hk, rfl, rfl⟩ := hrel
    by_cases hlt : k < 2
    · have hd : decide ((k : Int) < 2) = true := decide_eq_true (by omega)
      obtain ⟨d, hdd⟩ : ∃ d, l.getD k 0 = d := ⟨_, rfl⟩
      have hcell : w.cell? ⟨b, off + k, none⟩ = some (.int .u8 d) := by rw [← hdd]; exact hc'.out k hlt
      have hst := get_step (wd.leV (l.take k)) d k (by omega) (wd.leV_bd _ (wd.isBytes_take hb'.out k)).1 (by have := (wd.leV_bd _ (wd.isBytes_take hb'.out k)).2; rwa [List.length_take, Nat.min_eq_left (by have := h1'.out; omega)] at this) (by rw [← hdd]; exact (wd.isBytes_getD hb'.out k).1) (by rw [← hdd]; exact (wd.isBytes_getD hb'.out k).2)
      have hnx : wd.leV (l.take (k + 1)) = wd.leV (l.take k) + 256 ^ k * d := by rw [← hdd]; exact wd.leV_take l k (by have := h1'.out; omega)
      have HN := bl.hid hnx
      have HL := bl.hid hlt
      obtain ⟨X, hX⟩ : ∃ X, wd.leV (l.take k) = X := ⟨_, rfl⟩
      rw [hX] at hst
      have HX := bl.hid hX
      have hk2 : k ≤ 1 := by omega
      clear hnx hlt hdd
      rw [hX]
      clear hX
      go_wp2
      go_round
      case rel => first | exact ⟨k + 1, HL.out, by go_num, bl.int_eq (by rw [HN.out, HX.out])⟩ | ((repeat apply Exists.intro); refine ⟨⟨k + 1, HL.out, by go_num, bl.int_eq (by rw [HN.out, HX.out])⟩, ?_⟩; and_intros <;> rfl)
      case measure => have := HL.out; simp [intOf]; omega
    · obtain rfl : k = 2 := by omega
      go_wp2
      go_ret2
      exact ⟨bl.ret2 (bl.int_eq (by rw [List.take_of_length_le (by have := h1'.out; omega)])) rfl, rfl⟩
set_option maxHeartbeats 400000 in
theorem get4 (a : Option Addr) (c : Nat) (l : List Int) (w : World) (h : kt.Rd w a 4 l) : Calls Tryz.prog 47 #[.slice a 4 c] w fun e w' => e = .returned (.tuple #[.int .u64 (wd.leV l), .int .i64 0]) ∧ w = w' := by
  obtain ⟨h1, hb, h3⟩ := h
  rcases h3 with h3 | ⟨b, off, rfl, hc⟩
  · cases h3
  have hc' := bl.hid hc
  have hb' := bl.hid hb
  have h1' := bl.hid h1
  clear hc hb h1
  go_enter Tryz.func47, Tryz.ntmps47
  go_wp2
  go_loop [4, 18] (fun x i => ∃ k : Nat, k ≤ 4 ∧ i = .int .i64 k ∧ x = .int .u64 (wd.leV (l.take k))) (fun _ i => (4 - intOf i).toNat)
  case atStart => exact ⟨0, by omega, rfl, rfl⟩
  case round =>
    obtain ⟨k, hk, rfl, rfl⟩ := hrel
    by_cases hlt : k < 4
    · have hd : decide ((k : Int) < 4) = true := decide_eq_true (by omega)
      obtain ⟨d, hdd⟩ : ∃ d, l.getD k 0 = d := ⟨_, rfl⟩
      have hcell : w.cell? ⟨b, off + k, none⟩ = some (.int .u8 d) := by rw [← hdd]; exact hc'.out k hlt
      have hst := get_step (wd.leV (l.take k)) d k (by omega) (wd.leV_bd _ (wd.isBytes_take hb'.out k)).1 (by have := (wd.leV_bd _ (wd.isBytes_take hb'.out k)).2; rwa [List.length_take, Nat.min_eq_left (by have := h1'.out; omega)] at this) (by rw [← hdd]; exact (wd.isBytes_getD hb'.out k).1) (by rw [← hdd]; exact (wd.isBytes_getD hb'.out k).2)
      have hnx : wd.leV (l.take (k + 1)) = wd.leV (l.take k) + 256 ^ k * d := by rw [← hdd]; exact wd.leV_take l k (by have := h1'.out; omega)
      have HN := bl.hid hnx
      have HL := bl.hid hlt
      obtain ⟨X, hX⟩ : ∃ X, wd.leV (l.take k) = X := ⟨_, rfl⟩
      rw [hX] at hst
      have HX := bl.hid hX
      have hk2 : k ≤ 3 := by omega
      clear hnx hlt hdd
      rw [hX]
      clear hX
      go_wp2
      go_round
      case rel => first | exact ⟨k + 1, HL.out, by go_num, bl.int_eq (by rw [HN.out, HX.out])⟩ | ((repeat apply Exists.intro); refine ⟨⟨k + 1, HL.out, by go_num, bl.int_eq (by rw [HN.out, HX.out])⟩, ?_⟩; and_intros <;> rfl)
      case measure => have := HL.out; simp [intOf]; omega
    · obtain rfl : k = 4 := by omega
      go_wp2
      go_ret2
      exact ⟨bl.ret2 (bl.int_eq (by rw [List.take_of_length_le (by have := h1'.out; omega)])) rfl, rfl⟩
set_option maxHeartbeats 400000 in
theorem get8 (a : Option Addr) (c : Nat) (l : List Int) (w : World) (h : kt.Rd w a 8 l) : Calls Tryz.prog 47 #[.slice a 8 c] w fun e w' => e = .returned (.tuple #[.int .u64 (wd.leV l), .int .i64 0]) ∧ w = w' := by
  obtain ⟨h1, hb, h3⟩ := h
  rcases h3 with h3 | ⟨b, off, rfl, hc⟩
  · cases h3
  have hc' := bl.hid hc
  have hb' := bl.hid hb
  have h1' := bl.hid h1
  clear hc hb h1
  go_enter Tryz.func47, Tryz.ntmps47
  go_wp2
  go_loop [4, 18] (fun x i => ∃ k : Nat, k ≤ 8 ∧ i = .int .i64 k ∧ x = .int .u64 (wd.leV (l.take k))) (fun _ i => (8 - intOf i).toNat)
  case atStart => exact ⟨0, by omega, rfl, rfl⟩
  case round =>
    obtain ⟨k, hk, rfl, rfl⟩ := hrel
    by_cases hlt : k < 8
    · have hd : decide ((k : Int) < 8) = true := decide_eq_true (by omega)
      obtain ⟨d, hdd⟩ : ∃ d, l.getD k 0 = d := ⟨_, rfl⟩
      have hcell : w.cell? ⟨b, off + k, none⟩ = some (.int .u8 d) := by rw [← hdd]; exact hc'.out k hlt
      have hst := get_step (wd.leV (l.take k)) d k (by omega) (wd.leV_bd _ (wd.isBytes_take hb'.out k)).1 (by have := (wd.leV_bd _ (wd.isBytes_take hb'.out k)).2; rwa [List.length_take, Nat.min_eq_left (by have := h1'.out; omega)] at this) (by rw [← hdd]; exact (wd.isBytes_getD hb'.out k).1) (by rw [← hdd]; exact (wd.isBytes_getD hb'.out k).2)
      have hnx : wd.leV (l.take (k + 1)) = wd.leV (l.take k) + 256 ^ k * d := by rw [← hdd]; exact wd.leV_take l k (by have := h1'.out; omega)
      have HN := bl.hid hnx
      have HL := bl.hid hlt
      obtain ⟨X, hX⟩ : ∃ X, wd.leV (l.take k) = X := ⟨_, rfl⟩
      rw [hX] at hst
      have HX := bl.hid hX
      have hk2 : k ≤ 7 := by omega
      clear hnx hlt hdd
      rw [hX]
      clear hX
      go_wp2
      go_round
      case rel => first | exact ⟨k + 1, HL.out, by go_num, bl.int_eq (by rw [HN.out, HX.out])⟩ | ((repeat apply Exists.intro); refine ⟨⟨k + 1, HL.out, by go_num, bl.int_eq (by rw [HN.out, HX.out])⟩, ?_⟩; and_intros <;> rfl)
      case measure => have := HL.out; simp [intOf]; omega
    · obtain rfl : k = 8 := by omega
      go_wp2
      go_ret2
      exact ⟨bl.ret2 (bl.int_eq (by rw [List.take_of_length_le (by have := h1'.out; omega)])) rfl, rfl⟩
theorem get_long (a : Option Addr) (n c : Nat) (w : World) (h : 8 < n) : Calls Tryz.prog 47 #[.slice a n c] w fun e w' => e = .returned (.tuple #[.int .u64 0, .int .i64 3]) ∧ w = w' := by
  go_enter Tryz.func47, Tryz.ntmps47
  go_wp2
  go_ret2
  exact ⟨rfl, rfl⟩
theorem get_odd0 (a : Option Addr) (c : Nat) (w : World) : Calls Tryz.prog 47 #[.slice a 0 c] w fun e w' => e = .returned (.tuple #[.int .u64 0, .int .i64 2]) ∧ w = w' := by
  go_enter Tryz.func47, Tryz.ntmps47
  go_wp2
  go_ret2
  exact ⟨rfl, rfl⟩
theorem get_odd3 (a : Option Addr) (c : Nat) (w : World) : Calls Tryz.prog 47 #[.slice a 3 c] w fun e w' => e = .returned (.tuple #[.int .u64 0, .int .i64 2]) ∧ w = w' := by
  go_enter Tryz.func47, Tryz.ntmps47
  go_wp2
  go_ret2
  exact ⟨rfl, rfl⟩
theorem get_odd5 (a : Option Addr) (c : Nat) (w : World) : Calls Tryz.prog 47 #[.slice a 5 c] w fun e w' => e = .returned (.tuple #[.int .u64 0, .int .i64 2]) ∧ w = w' := by
  go_enter Tryz.func47, Tryz.ntmps47
  go_wp2
  go_ret2
  exact ⟨rfl, rfl⟩
theorem get_odd6 (a : Option Addr) (c : Nat) (w : World) : Calls Tryz.prog 47 #[.slice a 6 c] w fun e w' => e = .returned (.tuple #[.int .u64 0, .int .i64 2]) ∧ w = w' := by
  go_enter Tryz.func47, Tryz.ntmps47
  go_wp2
  go_ret2
  exact ⟨rfl, rfl⟩
theorem get_odd7 (a : Option Addr) (c : Nat) (w : World) : Calls Tryz.prog 47 #[.slice a 7 c] w fun e w' => e = .returned (.tuple #[.int .u64 0, .int .i64 2]) ∧ w = w' := by
  go_enter Tryz.func47, Tryz.ntmps47
  go_wp2
  go_ret2
  exact ⟨rfl, rfl⟩
theorem get_any (a : Option Addr) (n c : Nat) (l : List Int) (w : World) (h : kt.Rd w a n l) : Calls Tryz.prog 47 #[.slice a n c] w fun e w' => e = .returned (.tuple #[.int .u64 (wd.getV l), .int .i64 (wd.getE l)]) ∧ w = w' := by
  have h1 := h.1
  by_cases h8 : 8 < n
  · rw [show wd.getV l = 0 from if_neg (by omega), show wd.getE l = 3 from if_pos (by omega)]
    exact get_long a n c w h8
  · have hn : n = 0 ∨ n = 1 ∨ n = 2 ∨ n = 3 ∨ n = 4 ∨ n = 5 ∨ n = 6 ∨ n = 7 ∨ n = 8 := by omega
    have ok : (n = 1 ∨ n = 2 ∨ n = 4 ∨ n = 8) → wd.getV l = wd.leV l ∧ wd.getE l = 0 := fun g => ⟨if_pos (by omega), by rw [wd.getE, if_neg (by omega), if_pos (by omega)]⟩
    have no : ¬ (n = 1 ∨ n = 2 ∨ n = 4 ∨ n = 8) → wd.getV l = 0 ∧ wd.getE l = 2 := fun g => ⟨if_neg (by omega), by rw [wd.getE, if_neg (by omega), if_neg (by omega)]⟩
    rcases hn with rfl | rfl | rfl | rfl | rfl | rfl | rfl | rfl | rfl
    · rw [(no (by omega)).1, (no (by omega)).2]; exact get_odd0 a c w
    · rw [(ok (by omega)).1, (ok (by omega)).2]; exact get1 a c l w h
    · rw [(ok (by omega)).1, (ok (by omega)).2]; exact get2 a c l w h
    · rw [(no (by omega)).1, (no (by omega)).2]; exact get_odd3 a c w
    · rw [(ok (by omega)).1, (ok (by omega)).2]; exact get4 a c l w h
    · rw [(no (by omega)).1, (no (by omega)).2]; exact get_odd5 a c w
    · rw [(no (by omega)).1, (no (by omega)).2]; exact get_odd6 a c w
    · rw [(no (by omega)).1, (no (by omega)).2]; exact get_odd7 a c w
    · rw [(ok (by omega)).1, (ok (by omega)).2]; exact get8 a c l w h
theorem put_no (x n : Int) (w : World) (h : ¬ (n = 1 ∨ n = 2 ∨ n = 4 ∨ n = 8)) : Calls Tryz.prog 120 #[.int .u64 x, .int .i64 n] w fun e w' => e = .returned (.tuple #[.slice none 0 0, .int .i64 2]) ∧ w = w' := by
  have n1 : (n == 1) = false := by simp; omega
  have n2 : (n == 2) = false := by simp; omega
  have n4 : (n == 4) = false := by simp; omega
  have n8 : (n == 8) = false := by simp; omega
  clear h
  go_enter Tryz.func120, Tryz.ntmps120
  go_wp2
  go_ret2
  exact ⟨rfl, rfl⟩
theorem same_any (a a' : Option Addr) (n n' c c' : Nat) (l l' : List Int) (w : World) (h : kt.Rd w a n l) (h' : kt.Rd w a' n' l') : Calls Tryz.prog 52 #[.slice a n c, .slice a' n' c'] w fun e w' => e = .returned (.bool (decide (l = l'))) ∧ w = w' := by
  have k1 := h.convert (P := Tryz.prog) 25 5 9 Tryz.underlying25 Tryz.underlying5 Tryz.underlying9 c
  have k2 := h'.convert (P := Tryz.prog) 25 5 9 Tryz.underlying25 Tryz.underlying5 Tryz.underlying9 c'
  have hb := bl.hid h.2.1
  have hb' := bl.hid h'.2.1
  clear h h'
  go_enter Tryz.func52, Tryz.ntmps52
  go_wp2
  go_ret
  refine ⟨bl.ret1 (bl.bool_eq ?_), rfl⟩
  by_cases e : l = l'
  · subst e
    simp
  · have ne : ¬ (strOfNums l).toList = (strOfNums l').toList := fun q => e (kt.strOfNums_inj hb.out hb'.out (by
      rw [ByteArray.toList_eq, ByteArray.toList_eq] at q
      exact ByteArray.ext (Array.toList_inj.1 q)))
    simp [e, ne]
end Go.Proofs.YtjjkocklpcdbkaaGreat
namespace Go.Proofs.YtjjkocklpcdbkaaGreat
open Go.RowKit
set_option linter.unusedVariables false
set_option maxRecDepth 100000

namespace kt
/-- only block g has turned -/
structure Only (g : Nat) (w w' : World) : Prop where
  os : w'.os = w.os
  tape : w'.tape = w.tape
  output : w'.output = w.output
  size : w'.heap.size = w.heap.size
  block : ∀ k, k ≠ g → w'.heap[k]? = w.heap[k]?
theorem Only.refl (g : Nat) (w : World) : Only g w w := ⟨rfl, rfl, rfl, rfl, fun _ _ => rfl⟩
theorem Only.trans {g : Nat} {a b c : World} (h : Only g a b) (k : Only g b c) : Only g a c := ⟨k.os.trans h.os, k.tape.trans h.tape, k.output.trans h.output, k.size.trans h.size, fun i hi => (k.block i hi).trans (h.block i hi)⟩
theorem Only.setCell (g o : Nat) (w : World) (v : Value) : Only g w (w.setCell ⟨g, o, none⟩ v) := ⟨rfl, rfl, rfl, by simp, fun k hk => Below.heap_setCell w ⟨g, o, none⟩ v k hk⟩
theorem Only.below {g B : Nat} {w w' : World} (h : Only g w w') (hB : B ≤ g) : Below B w w' := ⟨h.os, h.tape, h.output, by rw [h.size]; exact Nat.le_refl _, fun k hk => h.block k (by omega)⟩
theorem Own.empty (p : Value → Prop) (w : World) (e : TypeId) (size : Nat) : Own p (w.alloc (.cells #[] e)) w.heap.size e size (.slice (some ⟨w.heap.size, 0, none⟩) 0 0) 0 [] :=
  ⟨by simp, .inr ⟨w.heap.size, 0, [], rfl, Nat.le_refl _, heap_alloc_new w _, Nat.le_refl _, Nat.zero_le _, by simp, by simp, by simp⟩⟩
theorem wpList_append_Own_none {P : Program} {w : World} {ops : Array Oper} {rest : List Oper} {o : Oper} {a : Act} {Q : Exit → Act → World → Prop} (p : Value → Prop) (hgd : o.guard = none) (s x : Operand) (t : TypeId)
    (ho : o.op = .call { callee := .builtin .append, args := #[s, x], argTypes := #[t, t] })
    (B : Nat) (e : TypeId) (i : TypeInfo) (size : Nat) (ht : P.underlying t = some (.slice e)) (hi : P.info? e = some i)
    (v : Value) (n c : Nat) (xs : List Value) (hs : a.eval s = v) (hown : Own p w B e size v n xs) (hx : a.eval x = .slice none 0 c)
    (h : wpList P ops Q rest (a.put o.dst v) w) : wpList P ops Q (o :: rest) a w := by
  refine wpList_plain hgd fun K hK => ?_
  have hrun : (Builtin.append_ #[t, t] o.type #[v, .slice none 0 c]).run P w = .ok v w := by
    rcases hown.2 with ⟨rfl, rfl⟩ | ⟨g, cap, cur, rfl, _, _, hnc, _⟩
    · simp [Builtin.append_, run_underlying ht, sizeOf, typeInfo, hi, Builtin.lenOf, Builtin.firstCells]
    · simp [Builtin.append_, run_underlying ht, sizeOf, typeInfo, hi, Builtin.lenOf, Builtin.firstCells, hnc, storeCells]
  unfold Oper.wp
  simp [execOp, ho, resolve, invoke, builtin, hs, hx, hrun, Result.andThen]
  exact hK _ _ h
theorem Rd.cells {w : World} {n : Nat} {l : List Int} {b off : Nat} (h : Rd w (some ⟨b, off, none⟩) n l) : ∀ j u, (l.map (Value.int .u8))[j]? = some u → w.cell? ((⟨b, off, none⟩ : Addr).add j) = some u := by
  intro j u hu
  obtain ⟨h1, h2, h3⟩ := h
  have hj : j < l.length := by
    rcases Nat.lt_or_ge j l.length with g | g
    · exact g
    · rw [List.getElem?_eq_none (by simpa using g)] at hu
      cases hu
  rcases h3 with h3 | ⟨b', off', e, hc⟩
  · omega
  · simp only [Option.some.injEq, Addr.mk.injEq] at e
    obtain ⟨rfl, rfl, -⟩ := e
    have hadd : (⟨b, off, none⟩ : Addr).add j = ⟨b, off + j, none⟩ := by unfold Addr.add; split <;> simp_all
    rw [hadd, hc j (by omega)]
    simp [hj] at hu
    subst hu
    simp [List.getD, hj]
/-- the reading stays while all old memory stays -/
theorem Rd.keep {w w' : World} {a : Option Addr} {n : Nat} {l : List Int} (h : Rd w a n l) (hb : Below w.heap.size w w') : Rd w' a n l := by
  refine ⟨h.1, h.2.1, ?_⟩
  rcases h.2.2 with h0 | ⟨b, off, rfl, hc⟩
  · exact .inl h0
  · exact .inr ⟨b, off, rfl, fun i hi => (hb.cell (p := ⟨b, off + i, none⟩) (block_lt_of_cell (hc i hi))).trans (hc i hi)⟩
/-- a slice of bytes that came in reads as a list -/
theorem Rd.come {w : World} {a : Option Addr} {len cap : Nat} {zs : List Int}
    (h : (a = none ∧ len = 0 ∧ cap = 0 ∧ zs = []) ∨ ∃ x, a = some x ∧ len ≤ cap ∧ cap ≤ maxLen ∧ zs.length = cap ∧ (∀ i, i < zs.length → w.cell? (x.add i) = some (.int .u8 (zs.getD i 0))) ∧ ∀ n ∈ zs, (Lit.int .u8 n).wf = true) :
    Rd w a len (zs.take len) := by
  rcases h with ⟨rfl, rfl, rfl, rfl⟩ | ⟨x, rfl, h1, h2, h3, h4, h5⟩
  · exact Rd.nil _ _
  · refine ⟨by rw [List.length_take]; omega, fun z hz => ?_, ?_⟩
    · have := h5 z (List.mem_of_mem_take hz)
      have hmin : IntKind.u8.min = 0 := rfl
      have hmax : IntKind.u8.max = 255 := rfl
      simp only [Lit.wf, Bool.and_eq_true, decide_eq_true_eq] at this
      omega
    · by_cases h0 : len = 0
      · exact .inl h0
      · right
        obtain ⟨b, off, spot⟩ := x
        have hc := h4 0 (by omega)
        have hspot : spot = none := by simpa [Addr.add] using World.cell?_spot hc
        subst hspot
        refine ⟨b, off, rfl, fun i hi => ?_⟩
        have hadd : (⟨b, off, none⟩ : Addr).add i = ⟨b, off + i, none⟩ := by unfold Addr.add; split <;> simp_all
        have := h4 i (by omega)
        rw [hadd] at this
        rw [this]
        simp [List.getD, hi]
theorem u8_one {l : List Int} : ∀ u ∈ l.map (Value.int .u8), u.oneCell' = true := by
  intro u hu
  obtain ⟨z, -, rfl⟩ := List.mem_map.1 hu
  rfl
theorem u8_all {l : List Int} (h : wd.isBytes l) : ∀ u ∈ l.map (Value.int .u8), IsU8 u := by
  intro u hu
  obtain ⟨z, hz, rfl⟩ := List.mem_map.1 hu
  exact ⟨z, (h z hz).1, (h z hz).2, rfl⟩
end kt

/-- a slice in new memory, its cells bytes -/
def RowPost (n : Nat) (l : List Int) (w : World) (e : Ending) (w' : World) : Prop :=
  ∃ a c, e = .returned (.slice a n c) ∧ kt.Own kt.IsU8 w' w.heap.size 5 1 (.slice a n c) n (l.map (Value.int .u8)) ∧ Below w.heap.size w w'

/-- what is lent: a row with three marks behind -/
def LentPost (n : Nat) (l : List Int) (w : World) (e : Ending) (w' : World) : Prop :=
  ∃ g cap, e = .returned (.slice (some ⟨g, 0, none⟩) n (n + 3)) ∧ kt.Own kt.IsU8 w' w.heap.size 5 1 (.slice (some ⟨g, 0, none⟩) (n + 3) cap) (n + 3) ((l ++ [77, 201, 5]).map (Value.int .u8)) ∧ Below w.heap.size w w'
theorem three_u8 : ∀ u ∈ [Value.int .u8 77, .int .u8 201, .int .u8 5], kt.IsU8 u := by
  intro u hu
  simp at hu
  rcases hu with rfl | rfl | rfl
  · exact ⟨77, by decide, by decide, rfl⟩
  · exact ⟨201, by decide, by decide, rfl⟩
  · exact ⟨5, by decide, by decide, rfl⟩
theorem three_one : ∀ u ∈ [Value.int .u8 77, .int .u8 201, .int .u8 5], u.oneCell' = true := by
  intro u hu
  simp at hu
  rcases hu with rfl | rfl | rfl <;> rfl
theorem lit_new (w : World) (cs : List Value) (e : TypeId) : ∀ j u, cs[j]? = some u → (w.alloc (.cells cs.toArray e)).cell? ((⟨w.heap.size, 0, none⟩ : Addr).add j) = some u := by
  intro j u hu
  have hadd : (⟨w.heap.size, 0, none⟩ : Addr).add j = ⟨w.heap.size, j, none⟩ := by unfold Addr.add; split <;> simp_all
  rw [hadd, World.cell?_alloc_new]
  simpa using hu
/-- what is written over: only its own block turns -/
def OverPost (g : Nat) (w : World) (e : Ending) (w' : World) : Prop := e = .returned (.tuple #[]) ∧ kt.Only g w w'
/-- the row while it is written over -/
def OverInv (g m : Nat) (w wr : World) : Prop := ∃ cur : List Value, kt.Only g w wr ∧ wr.heap[g]? = some (.cells cur.toArray 5 (0, 0)) ∧ m ≤ cur.length ∧ ∀ c ∈ cur, kt.IsU8 c
theorem OverInv.cell {g m k : Nat} {w wr : World} (h : OverInv g m w wr) (hk : k < m) : ∃ z : Int, 0 ≤ z ∧ z < 256 ∧ wr.cell? ⟨g, k, none⟩ = some (.int .u8 z) ∧ wr.frozen? ⟨g, k, none⟩ = false ∧ ∀ u : Int, 0 ≤ u → u < 256 → OverInv g m w (wr.setCell ⟨g, k, none⟩ (.int .u8 u)) := by
  obtain ⟨cur, h1, h2, h3, h4⟩ := h
  have hk' : k < cur.length := by omega
  obtain ⟨z, z0, z1, hz⟩ := h4 cur[k] (List.getElem_mem hk')
  refine ⟨z, z0, z1, ?_, frozen_of_row wr g k _ _ h2, fun u u0 u1 => ?_⟩
  · rw [cell_of_row wr g k _ _ _ h2]
    simp [hk', hz]
  · refine ⟨cur.set k (.int .u8 u), h1.trans (kt.Only.setCell g k wr _), ?_, by simpa using h3, ?_⟩
    · rw [heap_setCell_same wr g k cur.toArray _ _ h2]
      simp
    · intro c hc
      rcases List.mem_or_eq_of_mem_set hc with hc | rfl
      · exact h4 c hc
      · exact ⟨u, u0, u1, rfl⟩
theorem Rd_append {w : World} {b off n : Nat} {l m : List Int} (h : kt.Rd w (some ⟨b, off, none⟩) (n + m.length) (l ++ m)) (hl : l.length = n) : kt.Rd w (some ⟨b, off, none⟩) n l ∧ kt.Rd w (some ⟨b, off + n, none⟩) m.length m := by
  obtain ⟨h1, h2, h3⟩ := h
  have key : n + m.length = 0 ∨ ∀ i, i < n + m.length → w.cell? ⟨b, off + i, none⟩ = some (.int .u8 ((l ++ m).getD i 0)) := by
    rcases h3 with h3 | ⟨b', off', e, hc⟩
    · exact .inl h3
    · simp only [Option.some.injEq, Addr.mk.injEq] at e
      obtain ⟨rfl, rfl, -⟩ := e
      exact .inr hc
  refine ⟨⟨hl, fun z hz => h2 z (by simp [hz]), ?_⟩, ⟨rfl, fun z hz => h2 z (by simp [hz]), ?_⟩⟩
  · rcases key with k | k
    · exact .inl (by omega)
    · refine .inr ⟨_, _, rfl, fun i hi => ?_⟩
      rw [k i (by omega)]
      simp [List.getD, List.getElem?_append, hl, hi]
  · rcases key with k | k
    · exact .inl (by omega)
    · refine .inr ⟨_, _, rfl, fun i hi => ?_⟩
      rw [Nat.add_assoc, k (n + i) (by omega)]
      simp [List.getD, List.getElem?_append, hl, show ¬ n + i < n by omega]
end Go.Proofs.YtjjkocklpcdbkaaGreat
namespace Go.Proofs.YtjjkocklpcdbkaaGreat
open Go.RowKit
set_option linter.unusedVariables false
set_option maxRecDepth 100000

/-- bytes in new memory, their number a numeral -/
def BytesN (n : Nat) (l : List Int) (w : World) (e : Ending) (w' : World) : Prop :=
  ∃ a c, e = .returned (.tuple #[.slice a n c, .int .i64 0]) ∧ kt.Own kt.IsU8 w' w.heap.size 5 1 (.slice a n c) n (l.map (Value.int .u8)) ∧ Below w.heap.size w w'
theorem BytesPost.n {n : Nat} {l : List Int} {w : World} {e : Ending} {w' : World} (h : BytesPost l w e w') (hn : l.length = n) : BytesN n l w e w' := by
  subst hn
  exact h
theorem Rd_own {w : World} {B : Nat} {a : Option Addr} {n c : Nat} {l : List Int} (hl : wd.isBytes l) (h : kt.Own kt.IsU8 w B 5 1 (.slice a n c) n (l.map (Value.int .u8))) : kt.Rd w a n l := kt.Rd.own hl h.row
theorem put_lit (x : Int) (n : Nat) (w : World) (x0 : 0 ≤ x) (x1 : x < 18446744073709551616) (h : n = 1 ∨ n = 2 ∨ n = 4 ∨ n = 8) : Calls Tryz.prog 120 #[.int .u64 x, .int .i64 n] w (BytesN n (wd.leB x n) w) := by
  rcases h with rfl | rfl | rfl | rfl
  · exact (put1 x w x0 x1).mono fun e w' q => q.n (wd.leB_length _ _)
  · exact (put2 x w x0 x1).mono fun e w' q => q.n (wd.leB_length _ _)
  · exact (put4 x w x0 x1).mono fun e w' q => q.n (wd.leB_length _ _)
  · exact (put8 x w x0 x1).mono fun e w' q => q.n (wd.leB_length _ _)
theorem same_yes (a a' : Option Addr) (n n' c c' : Nat) (l l' : List Int) (w : World) (h : kt.Rd w a n l) (h' : kt.Rd w a' n' l') (e : l = l') : Calls Tryz.prog 52 #[.slice a n c, .slice a' n' c'] w fun e w' => e = .returned (.bool true) ∧ w = w' := by
  have := same_any a a' n n' c c' l l' w h h'
  rwa [decide_eq_true e] at this

/-- block p holds the memory's struct, block g its bytes l (and maybe room behind) -/
structure IsMem (w : World) (p g : Nat) (l : List Int) : Prop where
  apart : p ≠ g
  head : ∃ cap, l.length ≤ cap ∧ w.heap[p]? = some (.cells #[.slice (some ⟨g, 0, none⟩) l.length cap] 112 (0, 0))
  row : ∃ rest : List Value, w.heap[g]? = some (.cells (l.map (Value.int .u8) ++ rest).toArray 5 (0, 0))
  bytes : wd.isBytes l
  size : l.length ≤ 65536

theorem IsMem.cell {w : World} {p g : Nat} {l : List Int} (h : IsMem w p g l) : ∃ cap, l.length ≤ cap ∧ w.cell? ⟨p, 0, none⟩ = some (.slice (some ⟨g, 0, none⟩) l.length cap) := by
  obtain ⟨cap, h1, h2⟩ := h.head
  exact ⟨cap, h1, by rw [cell_of_row w p 0 _ _ _ h2]; rfl⟩
theorem IsMem.kept {w w' : World} {p g : Nat} {l : List Int} (h : IsMem w p g l) (hp : w'.heap[p]? = w.heap[p]?) (hg : w'.heap[g]? = w.heap[g]?) : IsMem w' p g l := by
  obtain ⟨h1, ⟨cap, h2, h3⟩, ⟨rest, h4⟩, h5, h6⟩ := h
  exact ⟨h1, ⟨cap, h2, hp.trans h3⟩, ⟨rest, hg.trans h4⟩, h5, h6⟩
theorem IsMem.lt {w : World} {p g : Nat} {l : List Int} (h : IsMem w p g l) : p < w.heap.size ∧ g < w.heap.size := by
  obtain ⟨h1, ⟨cap, h2, h3⟩, ⟨rest, h4⟩, h5, h6⟩ := h
  exact ⟨(Array.getElem?_eq_some_iff.1 h3).1, (Array.getElem?_eq_some_iff.1 h4).1⟩
theorem IsMem.keep {w w' : World} {p g : Nat} {l : List Int} (h : IsMem w p g l) (hb : Below w.heap.size w w') : IsMem w' p g l := h.kept (hb.block p h.lt.1) (hb.block g h.lt.2)

theorem none_no (p g : Nat) (n cap : Nat) (w : World) (hc : w.cell? ⟨p, 0, none⟩ = some (.slice (some ⟨g, 0, none⟩) n cap)) :
    Calls Tryz.prog 67 #[.pointer (some ⟨p, 0, none⟩)] w fun e w' => e = .returned (.bool false) ∧ w = w' := by
  have q1 : ∀ (w : World) (a : Option Addr) (n c n' c' : Nat), (binOp .eql 25 (.slice a n c) (.slice none n' c')).run Tryz.prog w = .ok (.bool a.isNone) w := fun w a n c n' c' => Lib.run_eql_slice_nil w _ _ a n c n' c' Tryz.underlying25
  go_enter Tryz.func67, Tryz.ntmps67
  go_wp2
  go_ret
  exact ⟨rfl, rfl⟩
theorem none_nil (w : World) : Calls Tryz.prog 67 #[.pointer none] w fun e w' => e = .returned (.bool true) ∧ w = w' := by
  go_enter Tryz.func67, Tryz.ntmps67
  go_wp2
  go_ret
  exact ⟨rfl, rfl⟩
theorem none_empty (p n cap : Nat) (w : World) (hc : w.cell? ⟨p, 0, none⟩ = some (.slice none n cap)) : Calls Tryz.prog 67 #[.pointer (some ⟨p, 0, none⟩)] w fun e w' => e = .returned (.bool true) ∧ w = w' := by
  have q1 : ∀ (w : World) (a : Option Addr) (n c n' c' : Nat), (binOp .eql 25 (.slice a n c) (.slice none n' c')).run Tryz.prog w = .ok (.bool a.isNone) w := fun w a n c n' c' => Lib.run_eql_slice_nil w _ _ a n c n' c' Tryz.underlying25
  go_enter Tryz.func67, Tryz.ntmps67
  go_wp2
  go_ret
  exact ⟨rfl, rfl⟩
theorem cut_no (p g L cap : Nat) (at' n : Int) (w : World) (hc : w.cell? ⟨p, 0, none⟩ = some (.slice (some ⟨g, 0, none⟩) L cap)) (hL : L ≤ 65536) (a0 : 0 ≤ at') (a1 : at' < 18446744073709551616) (n0 : 0 ≤ n) (n1 : n < 9223372036854775808) (h : at' < 16 ∨ (L : Int) < at' + n) :
    Calls Tryz.prog 68 #[.pointer (some ⟨p, 0, none⟩), .int .u64 at', .int .i64 n] w fun e w' => e = .returned (.tuple #[.slice none 0 0, .bool false]) ∧ w = w' := by
  by_cases h1 : at' < 16
  · clear h
    go_enter Tryz.func68, Tryz.ntmps68
    go_wp2
    all_goals (go_ret2; exact ⟨rfl, rfl⟩)
  · have h2 : (L : Int) < at' + n := by omega
    clear h
    by_cases h3 : (L : Int) < at'
    · go_enter Tryz.func68, Tryz.ntmps68
      go_wp2
      all_goals (go_ret2; exact ⟨rfl, rfl⟩)
    · have h4 : (L : Int) - at' < n := by omega
      go_enter Tryz.func68, Tryz.ntmps68
      go_wp2
      all_goals (go_ret2; exact ⟨rfl, rfl⟩)
theorem cut_zero (p g L cap : Nat) (at' : Nat) (w : World) (hc : w.cell? ⟨p, 0, none⟩ = some (.slice (some ⟨g, 0, none⟩) L cap)) (hL : L ≤ 65536) (hcap : L ≤ cap) (a0 : 16 ≤ at') (a1 : at' ≤ L) :
    Calls Tryz.prog 68 #[.pointer (some ⟨p, 0, none⟩), .int .u64 at', .int .i64 0] w fun e w' => e = .returned (.tuple #[.slice (some ⟨g, 0, none⟩) 0 0, .bool true]) ∧ w = w' := by
  go_enter Tryz.func68, Tryz.ntmps68
  go_wp2
  go_ret2
  exact ⟨rfl, rfl⟩
theorem cut_pos (p g L cap : Nat) (at' n : Nat) (w : World) (hc : w.cell? ⟨p, 0, none⟩ = some (.slice (some ⟨g, 0, none⟩) L cap)) (hL : L ≤ 65536) (hcap : L ≤ cap) (a0 : 16 ≤ at') (n0 : 0 < n) (a1 : at' + n ≤ L) :
    Calls Tryz.prog 68 #[.pointer (some ⟨p, 0, none⟩), .int .u64 at', .int .i64 n] w fun e w' => e = .returned (.tuple #[.slice (some ⟨g, at', none⟩) n n, .bool true]) ∧ w = w' := by
  go_enter Tryz.func68, Tryz.ntmps68
  go_wp2
  go_ret2
  exact ⟨bl.ret2 (by show Value.slice _ (at' + n - at') (at' + n - at') = _; rw [Nat.add_sub_cancel_left]) rfl, rfl⟩

/-! ### access, where nothing is done -/
theorem access_nil (at' n : Int) (may : Bool) (f : Value) (w : World) : Calls Tryz.prog 44 #[.pointer none, .int .u64 at', .int .i64 n, .bool may, f] w fun e w' => e = .returned (.int .i64 1) ∧ w = w' := by
  go_enter Tryz.func44, Tryz.ntmps44
  go_wp2_with fail
  refine (none_nil _).mono ?_
  rintro e w' ⟨rfl, rfl⟩
  go_wp2
  go_ret
  exact ⟨rfl, rfl⟩
theorem access_empty (p m cap : Nat) (at' n : Int) (may : Bool) (f : Value) (w : World) (hc : w.cell? ⟨p, 0, none⟩ = some (.slice none m cap)) : Calls Tryz.prog 44 #[.pointer (some ⟨p, 0, none⟩), .int .u64 at', .int .i64 n, .bool may, f] w fun e w' => e = .returned (.int .i64 1) ∧ w = w' := by
  go_enter Tryz.func44, Tryz.ntmps44
  go_wp2_with fail
  refine (none_empty p m cap _ hc).mono ?_
  rintro e w' ⟨rfl, rfl⟩
  go_wp2
  go_ret
  exact ⟨rfl, rfl⟩
theorem access_not (p g L cap : Nat) (at' n : Int) (f : Value) (w : World) (hc : w.cell? ⟨p, 0, none⟩ = some (.slice (some ⟨g, 0, none⟩) L cap)) : Calls Tryz.prog 44 #[.pointer (some ⟨p, 0, none⟩), .int .u64 at', .int .i64 n, .bool false, f] w fun e w' => e = .returned (.int .i64 2) ∧ w = w' := by
  go_enter Tryz.func44, Tryz.ntmps44
  go_wp2_with fail
  refine (none_no p g L cap _ hc).mono ?_
  rintro e w' ⟨rfl, rfl⟩
  go_wp2
  go_ret
  exact ⟨rfl, rfl⟩
theorem access_out (p g L cap : Nat) (at' n : Int) (f : Value) (w : World) (hc : w.cell? ⟨p, 0, none⟩ = some (.slice (some ⟨g, 0, none⟩) L cap)) (hL : L ≤ 65536) (a0 : 0 ≤ at') (a1 : at' < 18446744073709551616) (n0 : 0 ≤ n) (n1 : n < 9223372036854775808) (h : at' < 16 ∨ (L : Int) < at' + n) :
    Calls Tryz.prog 44 #[.pointer (some ⟨p, 0, none⟩), .int .u64 at', .int .i64 n, .bool true, f] w fun e w' => e = .returned (.int .i64 15) ∧ w = w' := by
  have hmf : ∀ (fn : Fn) (first cap : Array Value) (w : World), (Instr.makeFunc fn first cap).run Tryz.prog w = .ok (.func fn first cap) w := fun _ _ _ _ => rfl
  have H := bl.hid h
  clear h
  go_enter Tryz.func44, Tryz.ntmps44
  go_wp2_with fail
  refine (none_no p g L cap _ hc).mono ?_
  rintro e w' ⟨rfl, rfl⟩
  go_wp2_with fail
  refine (cut_no p g L cap at' n _ hc hL a0 a1 n0 n1 H.out).mono ?_
  rintro e w' ⟨rfl, rfl⟩
  go_wp2
  go_ret
  exact ⟨rfl, rfl⟩
end Go.Proofs.YtjjkocklpcdbkaaGreat
