/- A slice that the call itself made, known with its spare room: all cells of its row have a property of ours. The law on append for it, over any program. -/
import Derived.WalkKit
import Derived.Test.YtkohmoekomegnaaKit
namespace Go.Proofs.Ytkohmoekomegnaa.kt
open Go.RowKit

/-- v, of n elements of 'size' cells each, begins at the head of a row from block B on (or is nil); its cells are xs; every cell of the row, the spare ones too, has the property p -/
def Own (p : Value → Prop) (w : World) (B : Nat) (e : TypeId) (size : Nat) (v : Value) (n : Nat) (xs : List Value) : Prop :=
  xs.length = n * size ∧
  ((v = .slice none 0 0 ∧ n = 0) ∨
   ∃ g cap, ∃ cur : List Value, v = .slice (some ⟨g, 0, none⟩) n cap ∧ B ≤ g ∧ w.heap[g]? = some (.cells cur.toArray e (0, 0)) ∧ n ≤ cap ∧ cap ≤ maxLen ∧ cur.length = cap * size ∧ cur.take (n * size) = xs ∧ ∀ c ∈ cur, p c)

theorem Own.nil (p : Value → Prop) (w : World) (B : Nat) (e : TypeId) (size : Nat) : Own p w B e size (.slice none 0 0) 0 [] := ⟨by simp, .inl ⟨rfl, rfl⟩⟩
theorem Own.row {p : Value → Prop} {w : World} {B e size n : Nat} {v : Value} {xs : List Value} (h : Own p w B e size v n xs) : w.ownsRow B e size v n xs := by
  refine ⟨h.1, ?_⟩
  rcases h.2 with h0 | ⟨g, cap, cur, h1, h2, h3, h4, h5, h6, h7, -⟩
  · exact .inl h0
  · exact .inr ⟨g, cap, cur.toArray, h1, h2, h3, h4, h5, by simpa using h6, by simpa using h7⟩
theorem Own.kept {p : Value → Prop} {w w' : World} {B e size n : Nat} {v : Value} {xs : List Value} (h : Own p w B e size v n xs) (hk : ∀ g, v.ownBlock = some g → w'.heap[g]? = w.heap[g]?) : Own p w' B e size v n xs := by
  refine ⟨h.1, ?_⟩
  rcases h.2 with h0 | ⟨g, cap, cur, rfl, h2, h3, r⟩
  · exact .inl h0
  · exact .inr ⟨g, cap, cur, rfl, h2, (hk g rfl).trans h3, r⟩
theorem Own.lt {p : Value → Prop} {w : World} {B e size n : Nat} {v : Value} {xs : List Value} (h : Own p w B e size v n xs) : ∀ g, v.ownBlock = some g → B ≤ g ∧ g < w.heap.size := h.row.lt
theorem Own.alloc {p : Value → Prop} {w : World} {B e size n : Nat} {v : Value} {xs : List Value} (h : Own p w B e size v n xs) (o : Obj) : Own p (w.alloc o) B e size v n xs :=
  h.kept fun g hg => heap_alloc_old w o (h.lt g hg).2
theorem Own.below {p : Value → Prop} {w w' : World} {B C e size n : Nat} {v : Value} {xs : List Value} (h : Own p w B e size v n xs) (hb : Below C w w') (hC : w.heap.size ≤ C) : Own p w' B e size v n xs :=
  h.kept fun g hg => hb.block g (Nat.lt_of_lt_of_le (h.lt g hg).2 hC)
theorem Own.grown {p : Value → Prop} {w w' : World} {B e size n : Nat} {v : Value} {xs : List Value} (h : Own p w B e size v n xs) {row : Option Nat} (hg : w.grownBy w' row) (hne : ∀ g, v.ownBlock = some g → some g ≠ row) : Own p w' B e size v n xs :=
  h.kept fun g hgg => hg.block g (h.lt g hgg).2 (hne g hgg)
theorem Own.mono {p : Value → Prop} {w : World} {B B' e size n : Nat} {v : Value} {xs : List Value} (h : Own p w B e size v n xs) (hB : B' ≤ B) : Own p w B' e size v n xs := by
  refine ⟨h.1, ?_⟩
  rcases h.2 with h0 | ⟨g, cap, cur, h1, h2, r⟩
  · exact .inl h0
  · exact .inr ⟨g, cap, cur, h1, Nat.le_trans hB h2, r⟩

theorem mem_zeroCells {z : Array Value} {n : Nat} {c : Value} (h : c ∈ (Builtin.zeroCells z n).toList) : c ∈ z.toList := by
  simp only [Builtin.zeroCells, Array.toList_map, List.mem_map] at h
  obtain ⟨i, hi, rfl⟩ := h
  have hi' : i < n * z.size := by simpa using hi
  have hp : 0 < z.size := Nat.pos_of_ne_zero fun e => by simp [e] at hi'
  have hm := Nat.mod_lt i hp
  rw [getElem!_pos z (i % z.size) hm]
  exact Array.getElem_mem_toList hm

theorem Own.shape {p : Value → Prop} {w : World} {B e size n : Nat} {v : Value} {xs : List Value} (h : Own p w B e size v n xs) : ∃ a c, v = .slice a n c := by
  rcases h.2 with ⟨rfl, rfl⟩ | ⟨g, cap, cur, rfl, r⟩
  · exact ⟨none, 0, rfl⟩
  · exact ⟨_, _, rfl⟩
theorem one_new (w : World) (v : Value) (e : TypeId) : ∀ j u, [v][j]? = some u → (w.alloc (.cells #[v] e)).cell? ((⟨w.heap.size, 0, none⟩ : Addr).add j) = some u := by
  intro j u hu
  match j, hu with
  | 0, hu =>
    simp at hu
    subst hu
    simp [Addr.add]
theorem Own.below_grown {p : Value → Prop} {w0 w w' : World} {B e size n : Nat} {v : Value} {xs : List Value} (h : Own p w B e size v n xs) (hb : Below B w0 w) (hB : B ≤ w.heap.size) (hg : w.grownBy w' v.ownBlock) : Below B w0 w' :=
  hb.grown hg hB fun k hk => (h.lt k hk).1
/-- a byte's cell -/
def IsU8 (c : Value) : Prop := ∃ z : Int, 0 ≤ z ∧ z < 256 ∧ c = .int .u8 z

variable {P : Program}

theorem run_append_Own (p : Value → Prop) (w : World) (B : Nat) (t ty e : TypeId) (i : TypeInfo) (z : Value) (size bytes : Nat) (ht : P.underlying t = some (.slice e)) (hi : P.info? e = some i) (hz : i.zero = some z)
    (hsize : i.size = size) (hby : i.bytes = bytes) (hzs : z.cells.size = size) (hzp : ∀ c ∈ z.cells.toList, p c)
    (v : Value) (n : Nat) (xs : List Value) (hown : Own p w B e size v n xs)
    (a : Addr) (m c : Nat) (news : List Value) (hl : news.length = m * size) (hnews : ∀ j u, news[j]? = some u → w.cell? (a.add j) = some u) (h1 : ∀ u ∈ news, u.oneCell' = true) (hnp : ∀ u ∈ news, p u)
    (h63 : n + m ≤ maxLen) (hbytes : (n + m) * bytes ≤ 140737488355328) (hbase : B ≤ w.heap.size) :
    ∃ v' w', (Builtin.append_ #[t, t] ty #[v, .slice (some a) m c]).run P w = .ok v' w' ∧ Own p w' B e size v' (n + m) (xs ++ news) ∧ w.grownBy w' v.ownBlock := by
  subst hsize
  subst hby
  have hsmall : n + m ≤ 9223372036854775807 := by simp only [maxLen] at h63; omega
  have hlen : (xs ++ news).length = (n + m) * i.size := by rw [List.length_append, hown.1, hl, Nat.add_mul]
  have fresh : ∀ (old : Nat), old < n + m → (∀ u ∈ xs, p u) → ∀ row : Option Nat,
      Own p (w.drew.alloc (.cells (xs.toArray ++ news.toArray ++ Builtin.zeroCells z.cells (grownCap w (n + m) old e - (n + m))) e)) B e i.size
        (.slice (some ⟨w.heap.size, 0, none⟩) (n + m) (grownCap w (n + m) old e)) (n + m) (xs ++ news) ∧
      w.grownBy (w.drew.alloc (.cells (xs.toArray ++ news.toArray ++ Builtin.zeroCells z.cells (grownCap w (n + m) old e - (n + m))) e)) row := by
    intro old ho hxp row
    have hge := grownCap_ge w (n + m) old e
    refine ⟨⟨hlen, .inr ⟨w.heap.size, _, (xs.toArray ++ news.toArray ++ Builtin.zeroCells z.cells (grownCap w (n + m) old e - (n + m))).toList, rfl, hbase, ?_, hge, grownCap_le_maxLen w (n + m) old e h63, ?_, ?_, ?_⟩⟩,
      ⟨rfl, rfl, rfl, by simp, fun k hk _ => heap_alloc_old w.drew _ hk⟩⟩
    · rw [Array.toArray_toList]
      exact heap_alloc_new w.drew _
    · rw [Array.length_toList, Array.size_append, Array.size_append, size_zeroCells, hzs, List.size_toArray, List.size_toArray, ← List.length_append, hlen, ← Nat.add_mul]
      congr 1
      omega
    · rw [Array.toList_append, Array.toList_append, ← hlen]
      exact List.take_left
    · intro c hc
      rw [Array.toList_append, Array.toList_append] at hc
      rcases List.mem_append.1 hc with hc | hc
      · rcases List.mem_append.1 hc with hc | hc
        · exact hxp c hc
        · exact hnp c hc
      · exact hzp c (mem_zeroCells hc)
  rcases hown.2 with ⟨rfl, rfl⟩ | ⟨g, cap, cur, rfl, hBg, hg, hnc, hcm, hcs, htake, hcp⟩
  · have hx : xs = [] := List.eq_nil_of_length_eq_zero (by simpa using hown.1)
    subst hx
    by_cases hm : m = 0
    · subst hm
      have hn : news = [] := List.eq_nil_of_length_eq_zero (by simpa using hl)
      subst hn
      refine ⟨.slice none 0 0, w, ?_, Own.nil p w B e i.size, ⟨rfl, rfl, rfl, Nat.le_refl _, fun _ _ _ => rfl⟩⟩
      simp [Builtin.append_, run_underlying ht, sizeOf, typeInfo, hi, Builtin.lenOf, Builtin.firstCells, loadCells, loadCellsFrom]
    · have hr := run_append_nil (P := P) w t ty e i z ht hi hz a m c news hl hnews (by omega) (by omega) (by have hb := hbytes; simp only [Nat.zero_add] at hb; omega)
      have hf := fresh 0 (by omega) (fun u hu => by cases hu) (Value.ownBlock (.slice none 0 0))
      simp only [Nat.zero_add, List.nil_append, Array.empty_append] at hf ⊢
      exact ⟨_, _, hr, hf.1, hf.2⟩
  · have hxp : ∀ u ∈ xs, p u := fun u hu => hcp u (by rw [← htake] at hu; exact List.mem_of_mem_take hu)
    by_cases hroom : n + m ≤ cap
    · have hfit : n * i.size + news.length ≤ cur.toArray.size := by rw [hl, List.size_toArray, hcs, ← Nat.add_mul]; exact Nat.mul_le_mul_right _ hroom
      have hr := run_append_room (P := P) w t ty e i ht hi g n cap cur.toArray hg a m c news hl hnews h1 hroom hfit
      refine ⟨_, _, hr, ⟨hlen, .inr ⟨g, cap, _, rfl, hBg, setRow_heap w g cur.toArray _ e _ hg, hroom, hcm, ?_, ?_, ?_⟩⟩, ⟨rfl, rfl, rfl, by simp, fun k _ hk => setRow_other w g k _ (fun e => hk (by simp [Value.ownBlock, e]))⟩⟩
      · simp only [List.length_append, List.length_take, List.length_drop, List.size_toArray] at hfit ⊢
        omega
      · show List.take _ (cur.take (n * i.size) ++ news ++ _) = _
        rw [htake, ← hlen]
        exact List.take_left
      · intro c hc
        rcases List.mem_append.1 hc with hc | hc
        · rcases List.mem_append.1 hc with hc | hc
          · exact hcp c (List.mem_of_mem_take hc)
          · exact hnp c hc
        · exact hcp c (List.mem_of_mem_drop hc)
    · have holds : ∀ j u, xs[j]? = some u → w.cell? ((⟨g, 0, none⟩ : Addr).add j) = some u := hown.row.cells (g := g) rfl
      have hr := run_append_grow (P := P) w t ty e i z ht hi hz ⟨g, 0, none⟩ n cap xs hown.1 holds a m c news hl hnews (by omega) (by omega) (growslice_fits (by omega) hbytes)
      have hf := fresh cap (by omega) hxp (Value.ownBlock (.slice (some ⟨g, 0, none⟩) n cap))
      exact ⟨_, _, hr, hf.1, hf.2⟩

theorem wpList_append_Own {w : World} {ops : Array Oper} {rest : List Oper} {o : Oper} {a : Act} {Q : Exit → Act → World → Prop} (p : Value → Prop) (hgd : o.guard = none) (s x : Operand) (t : TypeId)
    (ho : o.op = .call { callee := .builtin .append, args := #[s, x], argTypes := #[t, t] })
    (B : Nat) (e : TypeId) (i : TypeInfo) (z : Value) (size bytes : Nat) (ht : P.underlying t = some (.slice e)) (hi : P.info? e = some i) (hz : i.zero = some z)
    (hsize : i.size = size) (hby : i.bytes = bytes) (hzs : z.cells.size = size) (hzp : ∀ c ∈ z.cells.toList, p c)
    (v : Value) (n : Nat) (xs : List Value) (hs : a.eval s = v) (hown : Own p w B e size v n xs)
    (ad : Addr) (m c : Nat) (news : List Value) (hx : a.eval x = .slice (some ad) m c) (hl : news.length = m * size) (hnews : ∀ j u, news[j]? = some u → w.cell? (ad.add j) = some u) (h1 : ∀ u ∈ news, u.oneCell' = true) (hnp : ∀ u ∈ news, p u)
    (h63 : n + m ≤ maxLen) (hbytes : (n + m) * bytes ≤ 140737488355328) (hbase : B ≤ w.heap.size)
    (h : ∀ v' w', Own p w' B e size v' (n + m) (xs ++ news) → w.grownBy w' v.ownBlock → wpList P ops Q rest (a.put o.dst v') w') : wpList P ops Q (o :: rest) a w :=
  wpList_plain hgd fun _ hK => by
    obtain ⟨v', w', hr, h2, h3⟩ := run_append_Own (P := P) p w B t o.type e i z size bytes ht hi hz hsize hby hzs hzp v n xs hown ad m c news hl hnews h1 hnp h63 hbytes hbase
    unfold Oper.wp execOp
    simp only [ho, resolve, invoke, builtin, Sem.run_bind, Sem.run_pure, Result.andThen_ok, List.map_toArray, List.map_cons, List.map_nil, hs, hx, hr]
    exact hK _ _ (h v' w' h2 h3)
end Go.Proofs.Ytkohmoekomegnaa.kt
