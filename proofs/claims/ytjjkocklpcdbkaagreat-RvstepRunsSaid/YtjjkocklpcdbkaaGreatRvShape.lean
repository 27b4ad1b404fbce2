/- shaped: what a form is. -/
import Derived.Test.YtjjkocklpcdbkaaGreatGr1
import Derived.Deep.RegionHeld3
import Derived.Laws.EntriesVeiled
namespace Go.Proofs.YtjjkocklpcdbkaaGreat
open Go.RowKit
set_option linter.unusedVariables false
set_option maxRecDepth 100000

namespace rv
/-- a field: which number of an instruction (1 Rd, 2 Rs1, 3 Rs2, 4 Imm), and the pieces of it -/
structure Fld where
  k : Nat
  ps : List (Int × Int × Int)
structure Shape where
  fs : List Fld
  b : Bool
  c : Int
  low : Int
  high : Int
  step : Int
def fd : Fld := ⟨1, [(0, 5, 7)]⟩
def fs1 : Fld := ⟨2, [(0, 5, 15)]⟩
def fs2 : Fld := ⟨3, [(0, 5, 20)]⟩
def shR : Shape := ⟨[fd, fs1, fs2], true, 25, 0, 0, 0⟩
def shI : Shape := ⟨[fd, fs1, ⟨4, [(0, 12, 20)]⟩], true, 0, -2048, 2047, 1⟩
def shX : Shape := ⟨[fd, fs1, ⟨4, [(0, 6, 20)]⟩], true, 26, 0, 63, 1⟩
def shY : Shape := ⟨[fd, fs1, ⟨4, [(0, 5, 20)]⟩], true, 25, 0, 31, 1⟩
def shS : Shape := ⟨[fs1, fs2, ⟨4, [(0, 5, 7), (5, 7, 25)]⟩], true, 0, -2048, 2047, 1⟩
def shB : Shape := ⟨[fs1, fs2, ⟨4, [(11, 1, 7), (1, 4, 8), (5, 6, 25), (12, 1, 31)]⟩], true, 0, -4096, 4094, 2⟩
def shU : Shape := ⟨[fd, ⟨4, [(0, 20, 12)]⟩], false, 0, -524288, 524287, 1⟩
def shJ : Shape := ⟨[fd, ⟨4, [(12, 8, 12), (11, 1, 20), (1, 10, 21), (20, 1, 31)]⟩], false, 0, -1048576, 1048574, 2⟩
def shE : Shape := ⟨[], false, 0, 0, 0, 0⟩
end rv
/-- the function that tells where a field's number stands -/
def fnOf : Nat → Nat
  | 1 => 110
  | 2 => 111
  | 3 => 112
  | _ => 114
/-- the pieces lie in block P from the j-th on -/
def PiecesAt (w : World) (P : Nat) : Nat → List (Int × Int × Int) → Prop
  | _, [] => True
  | j, p :: r => (w.cell? ⟨P, j * 3, none⟩ = some (.int .i64 p.1) ∧ w.cell? ⟨P, j * 3 + 1, none⟩ = some (.int .i64 p.2.1) ∧ w.cell? ⟨P, j * 3 + 2, none⟩ = some (.int .i64 p.2.2)) ∧ PiecesAt w P (j + 1) r
/-- a field lies in block F at place i -/
def FldAt (w : World) (F i : Nat) (f : rv.Fld) : Prop :=
  ∃ P, w.cell? ⟨F, i * 2, none⟩ = some (.func (.func (fnOf f.k)) #[] #[]) ∧ w.cell? ⟨F, i * 2 + 1, none⟩ = some (.slice (some ⟨P, 0, none⟩) f.ps.length f.ps.length) ∧ PiecesAt w P 0 f.ps
/-- the fields lie in block F from the i-th on -/
def FldsAt (w : World) (F : Nat) : Nat → List rv.Fld → Prop
  | _, [] => True
  | i, f :: r => FldAt w F i f ∧ FldsAt w F (i + 1) r
/-- a form is told: its fields in new memory -/
def ShapePost (s : rv.Shape) (w : World) (e : Ending) (w' : World) : Prop :=
  ∃ a : Option Addr, ∃ F, (0 < s.fs.length → a = some ⟨F, 0, none⟩) ∧ e = .returned (.agg #[.slice a s.fs.length s.fs.length, .bool s.b, .int .i64 s.c, .int .i64 s.low, .int .i64 s.high, .int .i64 s.step]) ∧ FldsAt w' F 0 s.fs ∧ Below w.heap.size w w'
theorem shaped_imm (a : Option Addr) (n c : Nat) (w : World) : Calls Tryz.prog 113 #[.slice a n c] w fun e w' => e = .returned (.agg #[.func (.func 114) #[] #[], .slice a n c]) ∧ w.alloc (.cells #[.func (.func 114) #[] #[], .slice a n c] 159) = w' := by
  go_enter Tryz.func113, Tryz.ntmps113
  go_wp2
  exact bodyPost_ret (v := .agg #[.func (.func 114) #[] #[], .slice a n c]) (by simp [results, Tryz.results113, go_sem]) rfl ⟨rfl, rfl⟩

/-- the blocks that every call lays first: the result's, the pieces, the fields -/
structure First (w W : World) : Prop where
  b0 : W.heap[w.heap.size]? = some (.cells #[.slice none 0 0, .bool false, .int .i64 0, .int .i64 0, .int .i64 0, .int .i64 0] 135)
  b1 : W.heap[w.heap.size + 1]? = some (.cells #[.int .i64 0, .int .i64 5, .int .i64 7] 156)
  b2 : W.heap[w.heap.size + 1 + 1]? = some (.cells #[.int .i64 0, .int .i64 5, .int .i64 15] 156)
  b3 : W.heap[w.heap.size + 1 + 1 + 1]? = some (.cells #[.int .i64 0, .int .i64 5, .int .i64 20] 156)
  b4 : W.heap[w.heap.size + 1 + 1 + 1 + 1]? = some (.cells #[.func (.func 110) #[] #[], .slice (some ⟨w.heap.size + 1, 0, none⟩) 1 1] 159)
  b5 : W.heap[w.heap.size + 1 + 1 + 1 + 1 + 1]? = some (.cells #[.func (.func 111) #[] #[], .slice (some ⟨w.heap.size + 1 + 1, 0, none⟩) 1 1] 159)
  b6 : W.heap[w.heap.size + 1 + 1 + 1 + 1 + 1 + 1]? = some (.cells #[.func (.func 112) #[] #[], .slice (some ⟨w.heap.size + 1 + 1 + 1, 0, none⟩) 1 1] 159)
  size : W.heap.size = w.heap.size + 1 + 1 + 1 + 1 + 1 + 1 + 1
  below : Below w.heap.size w W
theorem first_of (w : World) : First w (((((((w.alloc (.cells #[.slice none 0 0, .bool false, .int .i64 0, .int .i64 0, .int .i64 0, .int .i64 0] 135)).alloc (.cells #[.int .i64 0, .int .i64 5, .int .i64 7] 156)).alloc (.cells #[.int .i64 0, .int .i64 5, .int .i64 15] 156)).alloc (.cells #[.int .i64 0, .int .i64 5, .int .i64 20] 156)).alloc (.cells #[.func (.func 110) #[] #[], .slice (some ⟨w.heap.size + 1, 0, none⟩) 1 1] 159)).alloc (.cells #[.func (.func 111) #[] #[], .slice (some ⟨w.heap.size + 1 + 1, 0, none⟩) 1 1] 159)).alloc (.cells #[.func (.func 112) #[] #[], .slice (some ⟨w.heap.size + 1 + 1 + 1, 0, none⟩) 1 1] 159)) := by
  have chain : ∀ o0 o1 o2 o3 o4 o5 o6 : Obj, let W := (((((((w.alloc o0).alloc o1).alloc o2).alloc o3).alloc o4).alloc o5).alloc o6); W.heap.size = w.heap.size + 1 + 1 + 1 + 1 + 1 + 1 + 1 ∧ Below w.heap.size w W ∧ W.heap[w.heap.size]? = some o0 ∧ W.heap[w.heap.size + 1]? = some o1 ∧ W.heap[w.heap.size + 1 + 1]? = some o2 ∧ W.heap[w.heap.size + 1 + 1 + 1]? = some o3 ∧ W.heap[w.heap.size + 1 + 1 + 1 + 1]? = some o4 ∧ W.heap[w.heap.size + 1 + 1 + 1 + 1 + 1]? = some o5 ∧ W.heap[w.heap.size + 1 + 1 + 1 + 1 + 1 + 1]? = some o6 := by
    intro o0 o1 o2 o3 o4 o5 o6 W
    have s1 : (w.alloc o0).heap.size = w.heap.size + 1 := by rw [World.size_alloc]
    have s2 : ((w.alloc o0).alloc o1).heap.size = w.heap.size + 1 + 1 := by rw [World.size_alloc, s1]
    have s3 : (((w.alloc o0).alloc o1).alloc o2).heap.size = w.heap.size + 1 + 1 + 1 := by rw [World.size_alloc, s2]
    have s4 : ((((w.alloc o0).alloc o1).alloc o2).alloc o3).heap.size = w.heap.size + 1 + 1 + 1 + 1 := by rw [World.size_alloc, s3]
    have s5 : (((((w.alloc o0).alloc o1).alloc o2).alloc o3).alloc o4).heap.size = w.heap.size + 1 + 1 + 1 + 1 + 1 := by rw [World.size_alloc, s4]
    have s6 : ((((((w.alloc o0).alloc o1).alloc o2).alloc o3).alloc o4).alloc o5).heap.size = w.heap.size + 1 + 1 + 1 + 1 + 1 + 1 := by rw [World.size_alloc, s5]
    have s7 : (((((((w.alloc o0).alloc o1).alloc o2).alloc o3).alloc o4).alloc o5).alloc o6).heap.size = w.heap.size + 1 + 1 + 1 + 1 + 1 + 1 + 1 := by rw [World.size_alloc, s6]
    refine ⟨s7, ?_, ?_, ?_, ?_, ?_, ?_, ?_, ?_⟩
    · exact ((((((((Below.refl _ _).alloc (Nat.le_refl _) o0).alloc (by omega) o1).alloc (by omega) o2).alloc (by omega) o3).alloc (by omega) o4).alloc (by omega) o5).alloc (by omega) o6)
    · show (((((((w.alloc o0).alloc o1).alloc o2).alloc o3).alloc o4).alloc o5).alloc o6).heap[w.heap.size]? = _
      rw [heap_alloc_old _ _ (by omega), heap_alloc_old _ _ (by omega), heap_alloc_old _ _ (by omega), heap_alloc_old _ _ (by omega), heap_alloc_old _ _ (by omega), heap_alloc_old _ _ (by omega), heap_alloc_new]
    · show (((((((w.alloc o0).alloc o1).alloc o2).alloc o3).alloc o4).alloc o5).alloc o6).heap[w.heap.size + 1]? = _
      rw [heap_alloc_old _ _ (by omega), heap_alloc_old _ _ (by omega), heap_alloc_old _ _ (by omega), heap_alloc_old _ _ (by omega), heap_alloc_old _ _ (by omega), ← s1, heap_alloc_new]
    · show (((((((w.alloc o0).alloc o1).alloc o2).alloc o3).alloc o4).alloc o5).alloc o6).heap[w.heap.size + 1 + 1]? = _
      rw [heap_alloc_old _ _ (by omega), heap_alloc_old _ _ (by omega), heap_alloc_old _ _ (by omega), heap_alloc_old _ _ (by omega), ← s2, heap_alloc_new]
    · show (((((((w.alloc o0).alloc o1).alloc o2).alloc o3).alloc o4).alloc o5).alloc o6).heap[w.heap.size + 1 + 1 + 1]? = _
      rw [heap_alloc_old _ _ (by omega), heap_alloc_old _ _ (by omega), heap_alloc_old _ _ (by omega), ← s3, heap_alloc_new]
    · show (((((((w.alloc o0).alloc o1).alloc o2).alloc o3).alloc o4).alloc o5).alloc o6).heap[w.heap.size + 1 + 1 + 1 + 1]? = _
      rw [heap_alloc_old _ _ (by omega), heap_alloc_old _ _ (by omega), ← s4, heap_alloc_new]
    · show (((((((w.alloc o0).alloc o1).alloc o2).alloc o3).alloc o4).alloc o5).alloc o6).heap[w.heap.size + 1 + 1 + 1 + 1 + 1]? = _
      rw [heap_alloc_old _ _ (by omega), ← s5, heap_alloc_new]
    · show (((((((w.alloc o0).alloc o1).alloc o2).alloc o3).alloc o4).alloc o5).alloc o6).heap[w.heap.size + 1 + 1 + 1 + 1 + 1 + 1]? = _
      rw [← s6, heap_alloc_new]
  obtain ⟨h, hb, h0, h1, h2, h3, h4, h5, h6⟩ := chain _ _ _ _ _ _ _
  exact ⟨h0, h1, h2, h3, h4, h5, h6, h, hb⟩
theorem First.drew {w W : World} (h : First w W) : First w W.drew := ⟨h.b0, h.b1, h.b2, h.b3, h.b4, h.b5, h.b6, h.size, h.below.drew⟩
theorem First.rd {w W w' : World} (h : First w W) (hb : Below W.heap.size W w') : w'.heap[w.heap.size + 1]? = W.heap[w.heap.size + 1]? ∧ w'.heap[w.heap.size + 1 + 1 + 1 + 1]? = W.heap[w.heap.size + 1 + 1 + 1 + 1]? := ⟨hb.block _ (by rw [h.size]; omega), hb.block _ (by rw [h.size]; omega)⟩
theorem First.rs1 {w W w' : World} (h : First w W) (hb : Below W.heap.size W w') : w'.heap[w.heap.size + 1 + 1]? = W.heap[w.heap.size + 1 + 1]? ∧ w'.heap[w.heap.size + 1 + 1 + 1 + 1 + 1]? = W.heap[w.heap.size + 1 + 1 + 1 + 1 + 1]? := ⟨hb.block _ (by rw [h.size]; omega), hb.block _ (by rw [h.size]; omega)⟩
theorem First.rs2 {w W w' : World} (h : First w W) (hb : Below W.heap.size W w') : w'.heap[w.heap.size + 1 + 1 + 1]? = W.heap[w.heap.size + 1 + 1 + 1]? ∧ w'.heap[w.heap.size + 1 + 1 + 1 + 1 + 1 + 1]? = W.heap[w.heap.size + 1 + 1 + 1 + 1 + 1 + 1]? := ⟨hb.block _ (by rw [h.size]; omega), hb.block _ (by rw [h.size]; omega)⟩
theorem shape_info : (Tryz.prog.info? 135).map (·.size) = some 6 := by kernel_rfl
theorem sh_one (a : Option Addr) (n c : Nat) (b : Bool) (x y z v : Int) : (#[.slice a n c, .bool b, .int .i64 x, .int .i64 y, .int .i64 z, .int .i64 v] : Array Value).all (·.oneCell') = true := by simp [Value.oneCell']
theorem imm_old {w W : World} (h : First w W) (x y z : Obj) : (((W.alloc x).alloc y).alloc z).heap[w.heap.size]? = W.heap[w.heap.size]? := by
  have hs := h.size
  have s1 : (W.alloc x).heap.size = W.heap.size + 1 := World.size_alloc _ _
  have s2 : ((W.alloc x).alloc y).heap.size = W.heap.size + 1 + 1 := by rw [World.size_alloc, s1]
  rw [heap_alloc_old _ _ (by omega), heap_alloc_old _ _ (by omega), heap_alloc_old _ _ (by omega)]
/-- behind a form with an immediate: three blocks more, the result's block written -/
def immEnd (w W : World) (x y z : Obj) (v0 v1 v2 v3 v4 v5 : Value) : World :=
  (((((((((W.alloc x).alloc y).alloc z).setCell ⟨w.heap.size, 0, none⟩ v0).setCell ⟨w.heap.size, 1, none⟩ v1).setCell ⟨w.heap.size, 2, none⟩ v2).setCell ⟨w.heap.size, 3, none⟩ v3).setCell ⟨w.heap.size, 4, none⟩ v4).setCell ⟨w.heap.size, 5, none⟩ v5).drew
theorem imm_world {w W : World} (h : First w W) (x y z : Obj) (v0 v1 v2 v3 v4 v5 : Value) :
    (immEnd w W x y z v0 v1 v2 v3 v4 v5).heap[w.heap.size]? = some (.cells #[v0, v1, v2, v3, v4, v5] 135 (0, 0)) ∧
    (immEnd w W x y z v0 v1 v2 v3 v4 v5).heap[W.heap.size]? = some x ∧ (immEnd w W x y z v0 v1 v2 v3 v4 v5).heap[W.heap.size + 1 + 1]? = some z ∧
    (∀ k, w.heap.size < k → k < W.heap.size → (immEnd w W x y z v0 v1 v2 v3 v4 v5).heap[k]? = W.heap[k]?) ∧ Below w.heap.size w (immEnd w W x y z v0 v1 v2 v3 v4 v5) := by
  have hs := h.size
  have s1 : (W.alloc x).heap.size = W.heap.size + 1 := World.size_alloc _ _
  have s2 : ((W.alloc x).alloc y).heap.size = W.heap.size + 1 + 1 := by rw [World.size_alloc, s1]
  have s3 : (((W.alloc x).alloc y).alloc z).heap.size = W.heap.size + 1 + 1 + 1 := by rw [World.size_alloc, s2]
  have hb : Below w.heap.size w (((W.alloc x).alloc y).alloc z) := ((h.below.alloc (by omega) x).alloc (by omega) y).alloc (by omega) z
  have h0 : (((W.alloc x).alloc y).alloc z).heap[w.heap.size]? = some (.cells #[.slice none 0 0, .bool false, .int .i64 0, .int .i64 0, .int .i64 0, .int .i64 0] 135 (0, 0)) := (imm_old h x y z).trans h.b0
  have hx : (((W.alloc x).alloc y).alloc z).heap[W.heap.size]? = some x := by rw [heap_alloc_old _ _ (by omega), heap_alloc_old _ _ (by omega), heap_alloc_new]
  have hz : (((W.alloc x).alloc y).alloc z).heap[W.heap.size + 1 + 1]? = some z := by rw [← s2, heap_alloc_new]
  have hk : ∀ k, k < W.heap.size → (((W.alloc x).alloc y).alloc z).heap[k]? = W.heap[k]? := fun k k1 => by rw [heap_alloc_old _ _ (by omega), heap_alloc_old _ _ (by omega), heap_alloc_old _ _ k1]
  unfold immEnd
  generalize ((W.alloc x).alloc y).alloc z = C at *
  have ho : ∀ k, k ≠ w.heap.size → ((((((C.setCell ⟨w.heap.size, 0, none⟩ v0).setCell ⟨w.heap.size, 1, none⟩ v1).setCell ⟨w.heap.size, 2, none⟩ v2).setCell ⟨w.heap.size, 3, none⟩ v3).setCell ⟨w.heap.size, 4, none⟩ v4).setCell ⟨w.heap.size, 5, none⟩ v5).heap[k]? = C.heap[k]? := fun k hk => kt.set6_other C _ _ _ _ _ _ _ _ hk
  have hset := kt.set6 h0 v0 v1 v2 v3 v4 v5
  have hbs : Below w.heap.size C ((((((C.setCell ⟨w.heap.size, 0, none⟩ v0).setCell ⟨w.heap.size, 1, none⟩ v1).setCell ⟨w.heap.size, 2, none⟩ v2).setCell ⟨w.heap.size, 3, none⟩ v3).setCell ⟨w.heap.size, 4, none⟩ v4).setCell ⟨w.heap.size, 5, none⟩ v5) :=
    ((((((Below.refl w.heap.size C).setCell (Nat.le_refl _) v0).setCell (Nat.le_refl _) v1).setCell (Nat.le_refl _) v2).setCell (Nat.le_refl _) v3).setCell (Nat.le_refl _) v4).setCell (Nat.le_refl _) v5
  generalize (((((C.setCell ⟨w.heap.size, 0, none⟩ v0).setCell ⟨w.heap.size, 1, none⟩ v1).setCell ⟨w.heap.size, 2, none⟩ v2).setCell ⟨w.heap.size, 3, none⟩ v3).setCell ⟨w.heap.size, 4, none⟩ v4).setCell ⟨w.heap.size, 5, none⟩ v5 = D at *
  exact ⟨hset, (ho _ (by omega)).trans hx, (ho _ (by omega)).trans hz, fun k k0 k1 => (ho _ (by omega)).trans (hk k k1), hb.trans hbs.drew⟩
set_option maxRecDepth 100000 in
set_option maxHeartbeats 1600000 in
theorem shaped_I (w : World) : Calls Tryz.prog 92 #[.string ⟨#[73]⟩] w (ShapePost rv.shI w) := by
  have HF := bl.hid (first_of w)
  go_enter Tryz.func92, Tryz.ntmps92
  go_wp2_with fail
  generalize (((((((w.alloc (.cells #[.slice none 0 0, .bool false, .int .i64 0, .int .i64 0, .int .i64 0, .int .i64 0] 135)).alloc (.cells #[.int .i64 0, .int .i64 5, .int .i64 7] 156)).alloc (.cells #[.int .i64 0, .int .i64 5, .int .i64 15] 156)).alloc (.cells #[.int .i64 0, .int .i64 5, .int .i64 20] 156)).alloc (.cells #[.func (.func 110) #[] #[], .slice (some ⟨w.heap.size + 1, 0, none⟩) 1 1] 159)).alloc (.cells #[.func (.func 111) #[] #[], .slice (some ⟨w.heap.size + 1 + 1, 0, none⟩) 1 1] 159)).alloc (.cells #[.func (.func 112) #[] #[], .slice (some ⟨w.heap.size + 1 + 1 + 1, 0, none⟩) 1 1] 159)) = W at *
  have c40 : W.cell? ⟨w.heap.size + 1 + 1 + 1 + 1, 0, none⟩ = some (.func (.func 110) #[] #[]) := by rw [cell_of_row _ _ _ _ _ _ HF.out.b4]; rfl
  have c41 : W.cell? ⟨w.heap.size + 1 + 1 + 1 + 1, 1, none⟩ = some (.slice (some ⟨w.heap.size + 1, 0, none⟩) 1 1) := by rw [cell_of_row _ _ _ _ _ _ HF.out.b4]; rfl
  have l4 : w.heap.size + 1 + 1 + 1 + 1 < W.heap.size := by rw [HF.out.size]; omega
  have c50 : W.cell? ⟨w.heap.size + 1 + 1 + 1 + 1 + 1, 0, none⟩ = some (.func (.func 111) #[] #[]) := by rw [cell_of_row _ _ _ _ _ _ HF.out.b5]; rfl
  have c51 : W.cell? ⟨w.heap.size + 1 + 1 + 1 + 1 + 1, 1, none⟩ = some (.slice (some ⟨w.heap.size + 1 + 1, 0, none⟩) 1 1) := by rw [cell_of_row _ _ _ _ _ _ HF.out.b5]; rfl
  have l5 : w.heap.size + 1 + 1 + 1 + 1 + 1 < W.heap.size := by rw [HF.out.size]; omega
  have l0 : w.heap.size < W.heap.size := by rw [HF.out.size]; omega
  have HG : Hid (∀ x y z : Obj, (((W.alloc x).alloc y).alloc z).heap[w.heap.size]? = some (.cells #[.slice none 0 0, .bool false, .int .i64 0, .int .i64 0, .int .i64 0, .int .i64 0] 135)) := bl.hid fun x y z => (imm_old HF.out x y z).trans HF.out.b0
  have z0 : ∀ x y z : Obj, (((W.alloc x).alloc y).alloc z).cell? ⟨w.heap.size, 0, none⟩ = some (.slice none 0 0) := fun x y z => by rw [cell_of_row _ _ _ _ _ _ (HG.out x y z)]; rfl
  have y0 : ∀ x y z : Obj, (((W.alloc x).alloc y).alloc z).frozen? ⟨w.heap.size, 0, none⟩ = false := fun x y z => frozen_of_row _ _ _ _ _ (HG.out x y z)
  have z1 : ∀ x y z : Obj, (((W.alloc x).alloc y).alloc z).cell? ⟨w.heap.size, 1, none⟩ = some (.bool false) := fun x y z => by rw [cell_of_row _ _ _ _ _ _ (HG.out x y z)]; rfl
  have y1 : ∀ x y z : Obj, (((W.alloc x).alloc y).alloc z).frozen? ⟨w.heap.size, 1, none⟩ = false := fun x y z => frozen_of_row _ _ _ _ _ (HG.out x y z)
  have z2 : ∀ x y z : Obj, (((W.alloc x).alloc y).alloc z).cell? ⟨w.heap.size, 2, none⟩ = some (.int .i64 0) := fun x y z => by rw [cell_of_row _ _ _ _ _ _ (HG.out x y z)]; rfl
  have y2 : ∀ x y z : Obj, (((W.alloc x).alloc y).alloc z).frozen? ⟨w.heap.size, 2, none⟩ = false := fun x y z => frozen_of_row _ _ _ _ _ (HG.out x y z)
  have z3 : ∀ x y z : Obj, (((W.alloc x).alloc y).alloc z).cell? ⟨w.heap.size, 3, none⟩ = some (.int .i64 0) := fun x y z => by rw [cell_of_row _ _ _ _ _ _ (HG.out x y z)]; rfl
  have y3 : ∀ x y z : Obj, (((W.alloc x).alloc y).alloc z).frozen? ⟨w.heap.size, 3, none⟩ = false := fun x y z => frozen_of_row _ _ _ _ _ (HG.out x y z)
  have z4 : ∀ x y z : Obj, (((W.alloc x).alloc y).alloc z).cell? ⟨w.heap.size, 4, none⟩ = some (.int .i64 0) := fun x y z => by rw [cell_of_row _ _ _ _ _ _ (HG.out x y z)]; rfl
  have y4 : ∀ x y z : Obj, (((W.alloc x).alloc y).alloc z).frozen? ⟨w.heap.size, 4, none⟩ = false := fun x y z => frozen_of_row _ _ _ _ _ (HG.out x y z)
  have z5 : ∀ x y z : Obj, (((W.alloc x).alloc y).alloc z).cell? ⟨w.heap.size, 5, none⟩ = some (.int .i64 0) := fun x y z => by rw [cell_of_row _ _ _ _ _ _ (HG.out x y z)]; rfl
  have y5 : ∀ x y z : Obj, (((W.alloc x).alloc y).alloc z).frozen? ⟨w.heap.size, 5, none⟩ = false := fun x y z => frozen_of_row _ _ _ _ _ (HG.out x y z)
  go_region_held3 (fun w' => w'.cell? ⟨w.heap.size + 1 + 1 + 1 + 1, 0, none⟩ = some (.func (.func 110) #[] #[]) ∧ w'.cell? ⟨w.heap.size + 1 + 1 + 1 + 1, 1, none⟩ = some (.slice (some ⟨w.heap.size + 1, 0, none⟩) 1 1) ∧ w'.cell? ⟨w.heap.size + 1 + 1 + 1 + 1 + 1, 0, none⟩ = some (.func (.func 111) #[] #[]) ∧ w'.cell? ⟨w.heap.size + 1 + 1 + 1 + 1 + 1, 1, none⟩ = some (.slice (some ⟨w.heap.size + 1 + 1, 0, none⟩) 1 1)) ((first | with_reducible assumption | ((try dsimp only); (try and_intros) <;> (repeat (first | with_reducible apply kt.cell_drew | with_reducible apply kt.cell_alloc | with_reducible refine kt.cell_set ?_ (by omega))) <;> with_reducible assumption)))
    ((first | (go_at_call 113; refine (shaped_imm _ _ _ _).mono ?_; rintro e w2 ⟨rfl, rfl⟩)))
  obtain ⟨q0, q1, q2, q3, q4⟩ := imm_world HF.out (.cells #[.int .i64 0, .int .i64 12, .int .i64 20] 156) (.cells #[.func (.func 114) #[] #[], .slice (some ⟨W.heap.size, 0, none⟩) 1 1] 159) (.cells #[.func (.func 110) #[] #[], .slice (some ⟨w.heap.size + 1, 0, none⟩) 1 1, .func (.func 111) #[] #[], .slice (some ⟨w.heap.size + 1 + 1, 0, none⟩) 1 1, .func (.func 114) #[] #[], .slice (some ⟨W.heap.size, 0, none⟩) 1 1] 159) (.slice (some ⟨W.heap.size + 1 + 1, 0, none⟩) 3 3) (.bool true) (.int .i64 0) (.int .i64 (-2048)) (.int .i64 2047) (.int .i64 1)
  have Q0 := bl.hid q0
  have Q1 := bl.hid q1
  have Q2 := bl.hid q2
  have Q3 := bl.hid q3
  clear q0 q1 q2 q3
  clear z0 y0 z1 y1 z2 y2 z3 y3 z4 y4 z5 y5
  go_wp2
  refine bodyPost_ret (results_cell_row rfl _ _ w.heap.size 135 _ (0, 0) _ rfl Q0.out Tryz.underlying135 rfl shape_info) rfl ?_
  obtain ⟨q1, q2, q3⟩ := And.intro Q1.out (And.intro Q2.out Q3.out)
  have hp1 := (q3 (w.heap.size + 1) (by omega) (by rw [HF.out.size]; omega)).trans HF.out.b1
  have hp2 := (q3 (w.heap.size + 1 + 1) (by omega) (by rw [HF.out.size]; omega)).trans HF.out.b2
  exact ⟨_, _, fun _ => rfl, rfl, ⟨⟨w.heap.size + 1, (cell_of_row _ _ _ _ _ _ q2).trans rfl, (cell_of_row _ _ _ _ _ _ q2).trans rfl, ⟨(cell_of_row _ _ _ _ _ _ hp1).trans rfl, (cell_of_row _ _ _ _ _ _ hp1).trans rfl, (cell_of_row _ _ _ _ _ _ hp1).trans rfl⟩, trivial⟩, ⟨w.heap.size + 1 + 1, (cell_of_row _ _ _ _ _ _ q2).trans rfl, (cell_of_row _ _ _ _ _ _ q2).trans rfl, ⟨(cell_of_row _ _ _ _ _ _ hp2).trans rfl, (cell_of_row _ _ _ _ _ _ hp2).trans rfl, (cell_of_row _ _ _ _ _ _ hp2).trans rfl⟩, trivial⟩, ⟨W.heap.size, (cell_of_row _ _ _ _ _ _ q2).trans rfl, (cell_of_row _ _ _ _ _ _ q2).trans rfl, ⟨(cell_of_row _ _ _ _ _ _ q1).trans rfl, (cell_of_row _ _ _ _ _ _ q1).trans rfl, (cell_of_row _ _ _ _ _ _ q1).trans rfl⟩, trivial⟩, trivial⟩, q4⟩
set_option maxRecDepth 100000 in
set_option maxHeartbeats 1600000 in
theorem shaped_X (w : World) : Calls Tryz.prog 92 #[.string ⟨#[88]⟩] w (ShapePost rv.shX w) := by
  have HF := bl.hid (first_of w)
  go_enter Tryz.func92, Tryz.ntmps92
  go_wp2_with fail
  generalize (((((((w.alloc (.cells #[.slice none 0 0, .bool false, .int .i64 0, .int .i64 0, .int .i64 0, .int .i64 0] 135)).alloc (.cells #[.int .i64 0, .int .i64 5, .int .i64 7] 156)).alloc (.cells #[.int .i64 0, .int .i64 5, .int .i64 15] 156)).alloc (.cells #[.int .i64 0, .int .i64 5, .int .i64 20] 156)).alloc (.cells #[.func (.func 110) #[] #[], .slice (some ⟨w.heap.size + 1, 0, none⟩) 1 1] 159)).alloc (.cells #[.func (.func 111) #[] #[], .slice (some ⟨w.heap.size + 1 + 1, 0, none⟩) 1 1] 159)).alloc (.cells #[.func (.func 112) #[] #[], .slice (some ⟨w.heap.size + 1 + 1 + 1, 0, none⟩) 1 1] 159)) = W at *
  have c40 : W.cell? ⟨w.heap.size + 1 + 1 + 1 + 1, 0, none⟩ = some (.func (.func 110) #[] #[]) := by rw [cell_of_row _ _ _ _ _ _ HF.out.b4]; rfl
  have c41 : W.cell? ⟨w.heap.size + 1 + 1 + 1 + 1, 1, none⟩ = some (.slice (some ⟨w.heap.size + 1, 0, none⟩) 1 1) := by rw [cell_of_row _ _ _ _ _ _ HF.out.b4]; rfl
  have l4 : w.heap.size + 1 + 1 + 1 + 1 < W.heap.size := by rw [HF.out.size]; omega
  have c50 : W.cell? ⟨w.heap.size + 1 + 1 + 1 + 1 + 1, 0, none⟩ = some (.func (.func 111) #[] #[]) := by rw [cell_of_row _ _ _ _ _ _ HF.out.b5]; rfl
  have c51 : W.cell? ⟨w.heap.size + 1 + 1 + 1 + 1 + 1, 1, none⟩ = some (.slice (some ⟨w.heap.size + 1 + 1, 0, none⟩) 1 1) := by rw [cell_of_row _ _ _ _ _ _ HF.out.b5]; rfl
  have l5 : w.heap.size + 1 + 1 + 1 + 1 + 1 < W.heap.size := by rw [HF.out.size]; omega
  have l0 : w.heap.size < W.heap.size := by rw [HF.out.size]; omega
  have HG : Hid (∀ x y z : Obj, (((W.alloc x).alloc y).alloc z).heap[w.heap.size]? = some (.cells #[.slice none 0 0, .bool false, .int .i64 0, .int .i64 0, .int .i64 0, .int .i64 0] 135)) := bl.hid fun x y z => (imm_old HF.out x y z).trans HF.out.b0
  have z0 : ∀ x y z : Obj, (((W.alloc x).alloc y).alloc z).cell? ⟨w.heap.size, 0, none⟩ = some (.slice none 0 0) := fun x y z => by rw [cell_of_row _ _ _ _ _ _ (HG.out x y z)]; rfl
  have y0 : ∀ x y z : Obj, (((W.alloc x).alloc y).alloc z).frozen? ⟨w.heap.size, 0, none⟩ = false := fun x y z => frozen_of_row _ _ _ _ _ (HG.out x y z)
  have z1 : ∀ x y z : Obj, (((W.alloc x).alloc y).alloc z).cell? ⟨w.heap.size, 1, none⟩ = some (.bool false) := fun x y z => by rw [cell_of_row _ _ _ _ _ _ (HG.out x y z)]; rfl
  have y1 : ∀ x y z : Obj, (((W.alloc x).alloc y).alloc z).frozen? ⟨w.heap.size, 1, none⟩ = false := fun x y z => frozen_of_row _ _ _ _ _ (HG.out x y z)
  have z2 : ∀ x y z : Obj, (((W.alloc x).alloc y).alloc z).cell? ⟨w.heap.size, 2, none⟩ = some (.int .i64 0) := fun x y z => by rw [cell_of_row _ _ _ _ _ _ (HG.out x y z)]; rfl
  have y2 : ∀ x y z : Obj, (((W.alloc x).alloc y).alloc z).frozen? ⟨w.heap.size, 2, none⟩ = false := fun x y z => frozen_of_row _ _ _ _ _ (HG.out x y z)
  have z3 : ∀ x y z : Obj, (((W.alloc x).alloc y).alloc z).cell? ⟨w.heap.size, 3, none⟩ = some (.int .i64 0) := fun x y z => by rw [cell_of_row _ _ _ _ _ _ (HG.out x y z)]; rfl
  have y3 : ∀ x y z : Obj, (((W.alloc x).alloc y).alloc z).frozen? ⟨w.heap.size, 3, none⟩ = false := fun x y z => frozen_of_row _ _ _ _ _ (HG.out x y z)
  have z4 : ∀ x y z : Obj, (((W.alloc x).alloc y).alloc z).cell? ⟨w.heap.size, 4, none⟩ = some (.int .i64 0) := fun x y z => by rw [cell_of_row _ _ _ _ _ _ (HG.out x y z)]; rfl
  have y4 : ∀ x y z : Obj, (((W.alloc x).alloc y).alloc z).frozen? ⟨w.heap.size, 4, none⟩ = false := fun x y z => frozen_of_row _ _ _ _ _ (HG.out x y z)
  have z5 : ∀ x y z : Obj, (((W.alloc x).alloc y).alloc z).cell? ⟨w.heap.size, 5, none⟩ = some (.int .i64 0) := fun x y z => by rw [cell_of_row _ _ _ _ _ _ (HG.out x y z)]; rfl
  have y5 : ∀ x y z : Obj, (((W.alloc x).alloc y).alloc z).frozen? ⟨w.heap.size, 5, none⟩ = false := fun x y z => frozen_of_row _ _ _ _ _ (HG.out x y z)
  go_region_held3 (fun w' => w'.cell? ⟨w.heap.size + 1 + 1 + 1 + 1, 0, none⟩ = some (.func (.func 110) #[] #[]) ∧ w'.cell? ⟨w.heap.size + 1 + 1 + 1 + 1, 1, none⟩ = some (.slice (some ⟨w.heap.size + 1, 0, none⟩) 1 1) ∧ w'.cell? ⟨w.heap.size + 1 + 1 + 1 + 1 + 1, 0, none⟩ = some (.func (.func 111) #[] #[]) ∧ w'.cell? ⟨w.heap.size + 1 + 1 + 1 + 1 + 1, 1, none⟩ = some (.slice (some ⟨w.heap.size + 1 + 1, 0, none⟩) 1 1)) ((first | with_reducible assumption | ((try dsimp only); (try and_intros) <;> (repeat (first | with_reducible apply kt.cell_drew | with_reducible apply kt.cell_alloc | with_reducible refine kt.cell_set ?_ (by omega))) <;> with_reducible assumption)))
    ((first | (go_at_call 113; refine (shaped_imm _ _ _ _).mono ?_; rintro e w2 ⟨rfl, rfl⟩)))
  obtain ⟨q0, q1, q2, q3, q4⟩ := imm_world HF.out (.cells #[.int .i64 0, .int .i64 6, .int .i64 20] 156) (.cells #[.func (.func 114) #[] #[], .slice (some ⟨W.heap.size, 0, none⟩) 1 1] 159) (.cells #[.func (.func 110) #[] #[], .slice (some ⟨w.heap.size + 1, 0, none⟩) 1 1, .func (.func 111) #[] #[], .slice (some ⟨w.heap.size + 1 + 1, 0, none⟩) 1 1, .func (.func 114) #[] #[], .slice (some ⟨W.heap.size, 0, none⟩) 1 1] 159) (.slice (some ⟨W.heap.size + 1 + 1, 0, none⟩) 3 3) (.bool true) (.int .i64 26) (.int .i64 (0)) (.int .i64 63) (.int .i64 1)
  have Q0 := bl.hid q0
  have Q1 := bl.hid q1
  have Q2 := bl.hid q2
  have Q3 := bl.hid q3
  clear q0 q1 q2 q3
  clear z0 y0 z1 y1 z2 y2 z3 y3 z4 y4 z5 y5
  go_wp2
  refine bodyPost_ret (results_cell_row rfl _ _ w.heap.size 135 _ (0, 0) _ rfl Q0.out Tryz.underlying135 rfl shape_info) rfl ?_
  obtain ⟨q1, q2, q3⟩ := And.intro Q1.out (And.intro Q2.out Q3.out)
  have hp1 := (q3 (w.heap.size + 1) (by omega) (by rw [HF.out.size]; omega)).trans HF.out.b1
  have hp2 := (q3 (w.heap.size + 1 + 1) (by omega) (by rw [HF.out.size]; omega)).trans HF.out.b2
  exact ⟨_, _, fun _ => rfl, rfl, ⟨⟨w.heap.size + 1, (cell_of_row _ _ _ _ _ _ q2).trans rfl, (cell_of_row _ _ _ _ _ _ q2).trans rfl, ⟨(cell_of_row _ _ _ _ _ _ hp1).trans rfl, (cell_of_row _ _ _ _ _ _ hp1).trans rfl, (cell_of_row _ _ _ _ _ _ hp1).trans rfl⟩, trivial⟩, ⟨w.heap.size + 1 + 1, (cell_of_row _ _ _ _ _ _ q2).trans rfl, (cell_of_row _ _ _ _ _ _ q2).trans rfl, ⟨(cell_of_row _ _ _ _ _ _ hp2).trans rfl, (cell_of_row _ _ _ _ _ _ hp2).trans rfl, (cell_of_row _ _ _ _ _ _ hp2).trans rfl⟩, trivial⟩, ⟨W.heap.size, (cell_of_row _ _ _ _ _ _ q2).trans rfl, (cell_of_row _ _ _ _ _ _ q2).trans rfl, ⟨(cell_of_row _ _ _ _ _ _ q1).trans rfl, (cell_of_row _ _ _ _ _ _ q1).trans rfl, (cell_of_row _ _ _ _ _ _ q1).trans rfl⟩, trivial⟩, trivial⟩, q4⟩
set_option maxRecDepth 100000 in
set_option maxHeartbeats 1600000 in
theorem shaped_Y (w : World) : Calls Tryz.prog 92 #[.string ⟨#[89]⟩] w (ShapePost rv.shY w) := by
  have HF := bl.hid (first_of w)
  go_enter Tryz.func92, Tryz.ntmps92
  go_wp2_with fail
  generalize (((((((w.alloc (.cells #[.slice none 0 0, .bool false, .int .i64 0, .int .i64 0, .int .i64 0, .int .i64 0] 135)).alloc (.cells #[.int .i64 0, .int .i64 5, .int .i64 7] 156)).alloc (.cells #[.int .i64 0, .int .i64 5, .int .i64 15] 156)).alloc (.cells #[.int .i64 0, .int .i64 5, .int .i64 20] 156)).alloc (.cells #[.func (.func 110) #[] #[], .slice (some ⟨w.heap.size + 1, 0, none⟩) 1 1] 159)).alloc (.cells #[.func (.func 111) #[] #[], .slice (some ⟨w.heap.size + 1 + 1, 0, none⟩) 1 1] 159)).alloc (.cells #[.func (.func 112) #[] #[], .slice (some ⟨w.heap.size + 1 + 1 + 1, 0, none⟩) 1 1] 159)) = W at *
  have c40 : W.cell? ⟨w.heap.size + 1 + 1 + 1 + 1, 0, none⟩ = some (.func (.func 110) #[] #[]) := by rw [cell_of_row _ _ _ _ _ _ HF.out.b4]; rfl
  have c41 : W.cell? ⟨w.heap.size + 1 + 1 + 1 + 1, 1, none⟩ = some (.slice (some ⟨w.heap.size + 1, 0, none⟩) 1 1) := by rw [cell_of_row _ _ _ _ _ _ HF.out.b4]; rfl
  have l4 : w.heap.size + 1 + 1 + 1 + 1 < W.heap.size := by rw [HF.out.size]; omega
  have c50 : W.cell? ⟨w.heap.size + 1 + 1 + 1 + 1 + 1, 0, none⟩ = some (.func (.func 111) #[] #[]) := by rw [cell_of_row _ _ _ _ _ _ HF.out.b5]; rfl
  have c51 : W.cell? ⟨w.heap.size + 1 + 1 + 1 + 1 + 1, 1, none⟩ = some (.slice (some ⟨w.heap.size + 1 + 1, 0, none⟩) 1 1) := by rw [cell_of_row _ _ _ _ _ _ HF.out.b5]; rfl
  have l5 : w.heap.size + 1 + 1 + 1 + 1 + 1 < W.heap.size := by rw [HF.out.size]; omega
  have l0 : w.heap.size < W.heap.size := by rw [HF.out.size]; omega
  have HG : Hid (∀ x y z : Obj, (((W.alloc x).alloc y).alloc z).heap[w.heap.size]? = some (.cells #[.slice none 0 0, .bool false, .int .i64 0, .int .i64 0, .int .i64 0, .int .i64 0] 135)) := bl.hid fun x y z => (imm_old HF.out x y z).trans HF.out.b0
  have z0 : ∀ x y z : Obj, (((W.alloc x).alloc y).alloc z).cell? ⟨w.heap.size, 0, none⟩ = some (.slice none 0 0) := fun x y z => by rw [cell_of_row _ _ _ _ _ _ (HG.out x y z)]; rfl
  have y0 : ∀ x y z : Obj, (((W.alloc x).alloc y).alloc z).frozen? ⟨w.heap.size, 0, none⟩ = false := fun x y z => frozen_of_row _ _ _ _ _ (HG.out x y z)
  have z1 : ∀ x y z : Obj, (((W.alloc x).alloc y).alloc z).cell? ⟨w.heap.size, 1, none⟩ = some (.bool false) := fun x y z => by rw [cell_of_row _ _ _ _ _ _ (HG.out x y z)]; rfl
  have y1 : ∀ x y z : Obj, (((W.alloc x).alloc y).alloc z).frozen? ⟨w.heap.size, 1, none⟩ = false := fun x y z => frozen_of_row _ _ _ _ _ (HG.out x y z)
  have z2 : ∀ x y z : Obj, (((W.alloc x).alloc y).alloc z).cell? ⟨w.heap.size, 2, none⟩ = some (.int .i64 0) := fun x y z => by rw [cell_of_row _ _ _ _ _ _ (HG.out x y z)]; rfl
  have y2 : ∀ x y z : Obj, (((W.alloc x).alloc y).alloc z).frozen? ⟨w.heap.size, 2, none⟩ = false := fun x y z => frozen_of_row _ _ _ _ _ (HG.out x y z)
  have z3 : ∀ x y z : Obj, (((W.alloc x).alloc y).alloc z).cell? ⟨w.heap.size, 3, none⟩ = some (.int .i64 0) := fun x y z => by rw [cell_of_row _ _ _ _ _ _ (HG.out x y z)]; rfl
  have y3 : ∀ x y z : Obj, (((W.alloc x).alloc y).alloc z).frozen? ⟨w.heap.size, 3, none⟩ = false := fun x y z => frozen_of_row _ _ _ _ _ (HG.out x y z)
  have z4 : ∀ x y z : Obj, (((W.alloc x).alloc y).alloc z).cell? ⟨w.heap.size, 4, none⟩ = some (.int .i64 0) := fun x y z => by rw [cell_of_row _ _ _ _ _ _ (HG.out x y z)]; rfl
  have y4 : ∀ x y z : Obj, (((W.alloc x).alloc y).alloc z).frozen? ⟨w.heap.size, 4, none⟩ = false := fun x y z => frozen_of_row _ _ _ _ _ (HG.out x y z)
  have z5 : ∀ x y z : Obj, (((W.alloc x).alloc y).alloc z).cell? ⟨w.heap.size, 5, none⟩ = some (.int .i64 0) := fun x y z => by rw [cell_of_row _ _ _ _ _ _ (HG.out x y z)]; rfl
  have y5 : ∀ x y z : Obj, (((W.alloc x).alloc y).alloc z).frozen? ⟨w.heap.size, 5, none⟩ = false := fun x y z => frozen_of_row _ _ _ _ _ (HG.out x y z)
  go_region_held3 (fun w' => w'.cell? ⟨w.heap.size + 1 + 1 + 1 + 1, 0, none⟩ = some (.func (.func 110) #[] #[]) ∧ w'.cell? ⟨w.heap.size + 1 + 1 + 1 + 1, 1, none⟩ = some (.slice (some ⟨w.heap.size + 1, 0, none⟩) 1 1) ∧ w'.cell? ⟨w.heap.size + 1 + 1 + 1 + 1 + 1, 0, none⟩ = some (.func (.func 111) #[] #[]) ∧ w'.cell? ⟨w.heap.size + 1 + 1 + 1 + 1 + 1, 1, none⟩ = some (.slice (some ⟨w.heap.size + 1 + 1, 0, none⟩) 1 1)) ((first | with_reducible assumption | ((try dsimp only); (try and_intros) <;> (repeat (first | with_reducible apply kt.cell_drew | with_reducible apply kt.cell_alloc | with_reducible refine kt.cell_set ?_ (by omega))) <;> with_reducible assumption)))
    ((first | (go_at_call 113; refine (shaped_imm _ _ _ _).mono ?_; rintro e w2 ⟨rfl, rfl⟩)))
  obtain ⟨q0, q1, q2, q3, q4⟩ := imm_world HF.out (.cells #[.int .i64 0, .int .i64 5, .int .i64 20] 156) (.cells #[.func (.func 114) #[] #[], .slice (some ⟨W.heap.size, 0, none⟩) 1 1] 159) (.cells #[.func (.func 110) #[] #[], .slice (some ⟨w.heap.size + 1, 0, none⟩) 1 1, .func (.func 111) #[] #[], .slice (some ⟨w.heap.size + 1 + 1, 0, none⟩) 1 1, .func (.func 114) #[] #[], .slice (some ⟨W.heap.size, 0, none⟩) 1 1] 159) (.slice (some ⟨W.heap.size + 1 + 1, 0, none⟩) 3 3) (.bool true) (.int .i64 25) (.int .i64 (0)) (.int .i64 31) (.int .i64 1)
  have Q0 := bl.hid q0
  have Q1 := bl.hid q1
  have Q2 := bl.hid q2
  have Q3 := bl.hid q3
  clear q0 q1 q2 q3
  clear z0 y0 z1 y1 z2 y2 z3 y3 z4 y4 z5 y5
  go_wp2
  refine bodyPost_ret (results_cell_row rfl _ _ w.heap.size 135 _ (0, 0) _ rfl Q0.out Tryz.underlying135 rfl shape_info) rfl ?_
  obtain ⟨q1, q2, q3⟩ := And.intro Q1.out (And.intro Q2.out Q3.out)
  have hp1 := (q3 (w.heap.size + 1) (by omega) (by rw [HF.out.size]; omega)).trans HF.out.b1
  have hp2 := (q3 (w.heap.size + 1 + 1) (by omega) (by rw [HF.out.size]; omega)).trans HF.out.b2
  exact ⟨_, _, fun _ => rfl, rfl, ⟨⟨w.heap.size + 1, (cell_of_row _ _ _ _ _ _ q2).trans rfl, (cell_of_row _ _ _ _ _ _ q2).trans rfl, ⟨(cell_of_row _ _ _ _ _ _ hp1).trans rfl, (cell_of_row _ _ _ _ _ _ hp1).trans rfl, (cell_of_row _ _ _ _ _ _ hp1).trans rfl⟩, trivial⟩, ⟨w.heap.size + 1 + 1, (cell_of_row _ _ _ _ _ _ q2).trans rfl, (cell_of_row _ _ _ _ _ _ q2).trans rfl, ⟨(cell_of_row _ _ _ _ _ _ hp2).trans rfl, (cell_of_row _ _ _ _ _ _ hp2).trans rfl, (cell_of_row _ _ _ _ _ _ hp2).trans rfl⟩, trivial⟩, ⟨W.heap.size, (cell_of_row _ _ _ _ _ _ q2).trans rfl, (cell_of_row _ _ _ _ _ _ q2).trans rfl, ⟨(cell_of_row _ _ _ _ _ _ q1).trans rfl, (cell_of_row _ _ _ _ _ _ q1).trans rfl, (cell_of_row _ _ _ _ _ _ q1).trans rfl⟩, trivial⟩, trivial⟩, q4⟩
set_option maxRecDepth 100000 in
set_option maxHeartbeats 1600000 in
theorem shaped_S (w : World) : Calls Tryz.prog 92 #[.string ⟨#[83]⟩] w (ShapePost rv.shS w) := by
  have HF := bl.hid (first_of w)
  go_enter Tryz.func92, Tryz.ntmps92
  go_wp2_with fail
  generalize (((((((w.alloc (.cells #[.slice none 0 0, .bool false, .int .i64 0, .int .i64 0, .int .i64 0, .int .i64 0] 135)).alloc (.cells #[.int .i64 0, .int .i64 5, .int .i64 7] 156)).alloc (.cells #[.int .i64 0, .int .i64 5, .int .i64 15] 156)).alloc (.cells #[.int .i64 0, .int .i64 5, .int .i64 20] 156)).alloc (.cells #[.func (.func 110) #[] #[], .slice (some ⟨w.heap.size + 1, 0, none⟩) 1 1] 159)).alloc (.cells #[.func (.func 111) #[] #[], .slice (some ⟨w.heap.size + 1 + 1, 0, none⟩) 1 1] 159)).alloc (.cells #[.func (.func 112) #[] #[], .slice (some ⟨w.heap.size + 1 + 1 + 1, 0, none⟩) 1 1] 159)) = W at *
  have c50 : W.cell? ⟨w.heap.size + 1 + 1 + 1 + 1 + 1, 0, none⟩ = some (.func (.func 111) #[] #[]) := by rw [cell_of_row _ _ _ _ _ _ HF.out.b5]; rfl
  have c51 : W.cell? ⟨w.heap.size + 1 + 1 + 1 + 1 + 1, 1, none⟩ = some (.slice (some ⟨w.heap.size + 1 + 1, 0, none⟩) 1 1) := by rw [cell_of_row _ _ _ _ _ _ HF.out.b5]; rfl
  have l5 : w.heap.size + 1 + 1 + 1 + 1 + 1 < W.heap.size := by rw [HF.out.size]; omega
  have c60 : W.cell? ⟨w.heap.size + 1 + 1 + 1 + 1 + 1 + 1, 0, none⟩ = some (.func (.func 112) #[] #[]) := by rw [cell_of_row _ _ _ _ _ _ HF.out.b6]; rfl
  have c61 : W.cell? ⟨w.heap.size + 1 + 1 + 1 + 1 + 1 + 1, 1, none⟩ = some (.slice (some ⟨w.heap.size + 1 + 1 + 1, 0, none⟩) 1 1) := by rw [cell_of_row _ _ _ _ _ _ HF.out.b6]; rfl
  have l6 : w.heap.size + 1 + 1 + 1 + 1 + 1 + 1 < W.heap.size := by rw [HF.out.size]; omega
  have l0 : w.heap.size < W.heap.size := by rw [HF.out.size]; omega
  have HG : Hid (∀ x y z : Obj, (((W.alloc x).alloc y).alloc z).heap[w.heap.size]? = some (.cells #[.slice none 0 0, .bool false, .int .i64 0, .int .i64 0, .int .i64 0, .int .i64 0] 135)) := bl.hid fun x y z => (imm_old HF.out x y z).trans HF.out.b0
  have z0 : ∀ x y z : Obj, (((W.alloc x).alloc y).alloc z).cell? ⟨w.heap.size, 0, none⟩ = some (.slice none 0 0) := fun x y z => by rw [cell_of_row _ _ _ _ _ _ (HG.out x y z)]; rfl
  have y0 : ∀ x y z : Obj, (((W.alloc x).alloc y).alloc z).frozen? ⟨w.heap.size, 0, none⟩ = false := fun x y z => frozen_of_row _ _ _ _ _ (HG.out x y z)
  have z1 : ∀ x y z : Obj, (((W.alloc x).alloc y).alloc z).cell? ⟨w.heap.size, 1, none⟩ = some (.bool false) := fun x y z => by rw [cell_of_row _ _ _ _ _ _ (HG.out x y z)]; rfl
  have y1 : ∀ x y z : Obj, (((W.alloc x).alloc y).alloc z).frozen? ⟨w.heap.size, 1, none⟩ = false := fun x y z => frozen_of_row _ _ _ _ _ (HG.out x y z)
  have z2 : ∀ x y z : Obj, (((W.alloc x).alloc y).alloc z).cell? ⟨w.heap.size, 2, none⟩ = some (.int .i64 0) := fun x y z => by rw [cell_of_row _ _ _ _ _ _ (HG.out x y z)]; rfl
  have y2 : ∀ x y z : Obj, (((W.alloc x).alloc y).alloc z).frozen? ⟨w.heap.size, 2, none⟩ = false := fun x y z => frozen_of_row _ _ _ _ _ (HG.out x y z)
  have z3 : ∀ x y z : Obj, (((W.alloc x).alloc y).alloc z).cell? ⟨w.heap.size, 3, none⟩ = some (.int .i64 0) := fun x y z => by rw [cell_of_row _ _ _ _ _ _ (HG.out x y z)]; rfl
  have y3 : ∀ x y z : Obj, (((W.alloc x).alloc y).alloc z).frozen? ⟨w.heap.size, 3, none⟩ = false := fun x y z => frozen_of_row _ _ _ _ _ (HG.out x y z)
  have z4 : ∀ x y z : Obj, (((W.alloc x).alloc y).alloc z).cell? ⟨w.heap.size, 4, none⟩ = some (.int .i64 0) := fun x y z => by rw [cell_of_row _ _ _ _ _ _ (HG.out x y z)]; rfl
  have y4 : ∀ x y z : Obj, (((W.alloc x).alloc y).alloc z).frozen? ⟨w.heap.size, 4, none⟩ = false := fun x y z => frozen_of_row _ _ _ _ _ (HG.out x y z)
  have z5 : ∀ x y z : Obj, (((W.alloc x).alloc y).alloc z).cell? ⟨w.heap.size, 5, none⟩ = some (.int .i64 0) := fun x y z => by rw [cell_of_row _ _ _ _ _ _ (HG.out x y z)]; rfl
  have y5 : ∀ x y z : Obj, (((W.alloc x).alloc y).alloc z).frozen? ⟨w.heap.size, 5, none⟩ = false := fun x y z => frozen_of_row _ _ _ _ _ (HG.out x y z)
  go_region_held3 (fun w' => w'.cell? ⟨w.heap.size + 1 + 1 + 1 + 1 + 1, 0, none⟩ = some (.func (.func 111) #[] #[]) ∧ w'.cell? ⟨w.heap.size + 1 + 1 + 1 + 1 + 1, 1, none⟩ = some (.slice (some ⟨w.heap.size + 1 + 1, 0, none⟩) 1 1) ∧ w'.cell? ⟨w.heap.size + 1 + 1 + 1 + 1 + 1 + 1, 0, none⟩ = some (.func (.func 112) #[] #[]) ∧ w'.cell? ⟨w.heap.size + 1 + 1 + 1 + 1 + 1 + 1, 1, none⟩ = some (.slice (some ⟨w.heap.size + 1 + 1 + 1, 0, none⟩) 1 1)) ((first | with_reducible assumption | ((try dsimp only); (try and_intros) <;> (repeat (first | with_reducible apply kt.cell_drew | with_reducible apply kt.cell_alloc | with_reducible refine kt.cell_set ?_ (by omega))) <;> with_reducible assumption)))
    ((first | (go_at_call 113; refine (shaped_imm _ _ _ _).mono ?_; rintro e w2 ⟨rfl, rfl⟩)))
  obtain ⟨q0, q1, q2, q3, q4⟩ := imm_world HF.out (.cells #[.int .i64 0, .int .i64 5, .int .i64 7, .int .i64 5, .int .i64 7, .int .i64 25] 156) (.cells #[.func (.func 114) #[] #[], .slice (some ⟨W.heap.size, 0, none⟩) 2 2] 159) (.cells #[.func (.func 111) #[] #[], .slice (some ⟨w.heap.size + 1 + 1, 0, none⟩) 1 1, .func (.func 112) #[] #[], .slice (some ⟨w.heap.size + 1 + 1 + 1, 0, none⟩) 1 1, .func (.func 114) #[] #[], .slice (some ⟨W.heap.size, 0, none⟩) 2 2] 159) (.slice (some ⟨W.heap.size + 1 + 1, 0, none⟩) 3 3) (.bool true) (.int .i64 0) (.int .i64 (-2048)) (.int .i64 2047) (.int .i64 1)
  have Q0 := bl.hid q0
  have Q1 := bl.hid q1
  have Q2 := bl.hid q2
  have Q3 := bl.hid q3
  clear q0 q1 q2 q3
  clear z0 y0 z1 y1 z2 y2 z3 y3 z4 y4 z5 y5
  go_wp2
  refine bodyPost_ret (results_cell_row rfl _ _ w.heap.size 135 _ (0, 0) _ rfl Q0.out Tryz.underlying135 rfl shape_info) rfl ?_
  obtain ⟨q1, q2, q3⟩ := And.intro Q1.out (And.intro Q2.out Q3.out)
  have hp2 := (q3 (w.heap.size + 1 + 1) (by omega) (by rw [HF.out.size]; omega)).trans HF.out.b2
  have hp3 := (q3 (w.heap.size + 1 + 1 + 1) (by omega) (by rw [HF.out.size]; omega)).trans HF.out.b3
  exact ⟨_, _, fun _ => rfl, rfl, ⟨⟨w.heap.size + 1 + 1, (cell_of_row _ _ _ _ _ _ q2).trans rfl, (cell_of_row _ _ _ _ _ _ q2).trans rfl, ⟨(cell_of_row _ _ _ _ _ _ hp2).trans rfl, (cell_of_row _ _ _ _ _ _ hp2).trans rfl, (cell_of_row _ _ _ _ _ _ hp2).trans rfl⟩, trivial⟩, ⟨w.heap.size + 1 + 1 + 1, (cell_of_row _ _ _ _ _ _ q2).trans rfl, (cell_of_row _ _ _ _ _ _ q2).trans rfl, ⟨(cell_of_row _ _ _ _ _ _ hp3).trans rfl, (cell_of_row _ _ _ _ _ _ hp3).trans rfl, (cell_of_row _ _ _ _ _ _ hp3).trans rfl⟩, trivial⟩, ⟨W.heap.size, (cell_of_row _ _ _ _ _ _ q2).trans rfl, (cell_of_row _ _ _ _ _ _ q2).trans rfl, ⟨(cell_of_row _ _ _ _ _ _ q1).trans rfl, (cell_of_row _ _ _ _ _ _ q1).trans rfl, (cell_of_row _ _ _ _ _ _ q1).trans rfl⟩, ⟨(cell_of_row _ _ _ _ _ _ q1).trans rfl, (cell_of_row _ _ _ _ _ _ q1).trans rfl, (cell_of_row _ _ _ _ _ _ q1).trans rfl⟩, trivial⟩, trivial⟩, q4⟩
set_option maxRecDepth 100000 in
set_option maxHeartbeats 1600000 in
theorem shaped_B (w : World) : Calls Tryz.prog 92 #[.string ⟨#[66]⟩] w (ShapePost rv.shB w) := by
  have HF := bl.hid (first_of w)
  go_enter Tryz.func92, Tryz.ntmps92
  go_wp2_with fail
  generalize (((((((w.alloc (.cells #[.slice none 0 0, .bool false, .int .i64 0, .int .i64 0, .int .i64 0, .int .i64 0] 135)).alloc (.cells #[.int .i64 0, .int .i64 5, .int .i64 7] 156)).alloc (.cells #[.int .i64 0, .int .i64 5, .int .i64 15] 156)).alloc (.cells #[.int .i64 0, .int .i64 5, .int .i64 20] 156)).alloc (.cells #[.func (.func 110) #[] #[], .slice (some ⟨w.heap.size + 1, 0, none⟩) 1 1] 159)).alloc (.cells #[.func (.func 111) #[] #[], .slice (some ⟨w.heap.size + 1 + 1, 0, none⟩) 1 1] 159)).alloc (.cells #[.func (.func 112) #[] #[], .slice (some ⟨w.heap.size + 1 + 1 + 1, 0, none⟩) 1 1] 159)) = W at *
  have c50 : W.cell? ⟨w.heap.size + 1 + 1 + 1 + 1 + 1, 0, none⟩ = some (.func (.func 111) #[] #[]) := by rw [cell_of_row _ _ _ _ _ _ HF.out.b5]; rfl
  have c51 : W.cell? ⟨w.heap.size + 1 + 1 + 1 + 1 + 1, 1, none⟩ = some (.slice (some ⟨w.heap.size + 1 + 1, 0, none⟩) 1 1) := by rw [cell_of_row _ _ _ _ _ _ HF.out.b5]; rfl
  have l5 : w.heap.size + 1 + 1 + 1 + 1 + 1 < W.heap.size := by rw [HF.out.size]; omega
  have c60 : W.cell? ⟨w.heap.size + 1 + 1 + 1 + 1 + 1 + 1, 0, none⟩ = some (.func (.func 112) #[] #[]) := by rw [cell_of_row _ _ _ _ _ _ HF.out.b6]; rfl
  have c61 : W.cell? ⟨w.heap.size + 1 + 1 + 1 + 1 + 1 + 1, 1, none⟩ = some (.slice (some ⟨w.heap.size + 1 + 1 + 1, 0, none⟩) 1 1) := by rw [cell_of_row _ _ _ _ _ _ HF.out.b6]; rfl
  have l6 : w.heap.size + 1 + 1 + 1 + 1 + 1 + 1 < W.heap.size := by rw [HF.out.size]; omega
  have l0 : w.heap.size < W.heap.size := by rw [HF.out.size]; omega
  have HG : Hid (∀ x y z : Obj, (((W.alloc x).alloc y).alloc z).heap[w.heap.size]? = some (.cells #[.slice none 0 0, .bool false, .int .i64 0, .int .i64 0, .int .i64 0, .int .i64 0] 135)) := bl.hid fun x y z => (imm_old HF.out x y z).trans HF.out.b0
  have z0 : ∀ x y z : Obj, (((W.alloc x).alloc y).alloc z).cell? ⟨w.heap.size, 0, none⟩ = some (.slice none 0 0) := fun x y z => by rw [cell_of_row _ _ _ _ _ _ (HG.out x y z)]; rfl
  have y0 : ∀ x y z : Obj, (((W.alloc x).alloc y).alloc z).frozen? ⟨w.heap.size, 0, none⟩ = false := fun x y z => frozen_of_row _ _ _ _ _ (HG.out x y z)
  have z1 : ∀ x y z : Obj, (((W.alloc x).alloc y).alloc z).cell? ⟨w.heap.size, 1, none⟩ = some (.bool false) := fun x y z => by rw [cell_of_row _ _ _ _ _ _ (HG.out x y z)]; rfl
  have y1 : ∀ x y z : Obj, (((W.alloc x).alloc y).alloc z).frozen? ⟨w.heap.size, 1, none⟩ = false := fun x y z => frozen_of_row _ _ _ _ _ (HG.out x y z)
  have z2 : ∀ x y z : Obj, (((W.alloc x).alloc y).alloc z).cell? ⟨w.heap.size, 2, none⟩ = some (.int .i64 0) := fun x y z => by rw [cell_of_row _ _ _ _ _ _ (HG.out x y z)]; rfl
  have y2 : ∀ x y z : Obj, (((W.alloc x).alloc y).alloc z).frozen? ⟨w.heap.size, 2, none⟩ = false := fun x y z => frozen_of_row _ _ _ _ _ (HG.out x y z)
  have z3 : ∀ x y z : Obj, (((W.alloc x).alloc y).alloc z).cell? ⟨w.heap.size, 3, none⟩ = some (.int .i64 0) := fun x y z => by rw [cell_of_row _ _ _ _ _ _ (HG.out x y z)]; rfl
  have y3 : ∀ x y z : Obj, (((W.alloc x).alloc y).alloc z).frozen? ⟨w.heap.size, 3, none⟩ = false := fun x y z => frozen_of_row _ _ _ _ _ (HG.out x y z)
  have z4 : ∀ x y z : Obj, (((W.alloc x).alloc y).alloc z).cell? ⟨w.heap.size, 4, none⟩ = some (.int .i64 0) := fun x y z => by rw [cell_of_row _ _ _ _ _ _ (HG.out x y z)]; rfl
  have y4 : ∀ x y z : Obj, (((W.alloc x).alloc y).alloc z).frozen? ⟨w.heap.size, 4, none⟩ = false := fun x y z => frozen_of_row _ _ _ _ _ (HG.out x y z)
  have z5 : ∀ x y z : Obj, (((W.alloc x).alloc y).alloc z).cell? ⟨w.heap.size, 5, none⟩ = some (.int .i64 0) := fun x y z => by rw [cell_of_row _ _ _ _ _ _ (HG.out x y z)]; rfl
  have y5 : ∀ x y z : Obj, (((W.alloc x).alloc y).alloc z).frozen? ⟨w.heap.size, 5, none⟩ = false := fun x y z => frozen_of_row _ _ _ _ _ (HG.out x y z)
  go_region_held3 (fun w' => w'.cell? ⟨w.heap.size + 1 + 1 + 1 + 1 + 1, 0, none⟩ = some (.func (.func 111) #[] #[]) ∧ w'.cell? ⟨w.heap.size + 1 + 1 + 1 + 1 + 1, 1, none⟩ = some (.slice (some ⟨w.heap.size + 1 + 1, 0, none⟩) 1 1) ∧ w'.cell? ⟨w.heap.size + 1 + 1 + 1 + 1 + 1 + 1, 0, none⟩ = some (.func (.func 112) #[] #[]) ∧ w'.cell? ⟨w.heap.size + 1 + 1 + 1 + 1 + 1 + 1, 1, none⟩ = some (.slice (some ⟨w.heap.size + 1 + 1 + 1, 0, none⟩) 1 1)) ((first | with_reducible assumption | ((try dsimp only); (try and_intros) <;> (repeat (first | with_reducible apply kt.cell_drew | with_reducible apply kt.cell_alloc | with_reducible refine kt.cell_set ?_ (by omega))) <;> with_reducible assumption)))
    ((first | (go_at_call 113; refine (shaped_imm _ _ _ _).mono ?_; rintro e w2 ⟨rfl, rfl⟩)))
  obtain ⟨q0, q1, q2, q3, q4⟩ := imm_world HF.out (.cells #[.int .i64 11, .int .i64 1, .int .i64 7, .int .i64 1, .int .i64 4, .int .i64 8, .int .i64 5, .int .i64 6, .int .i64 25, .int .i64 12, .int .i64 1, .int .i64 31] 156) (.cells #[.func (.func 114) #[] #[], .slice (some ⟨W.heap.size, 0, none⟩) 4 4] 159) (.cells #[.func (.func 111) #[] #[], .slice (some ⟨w.heap.size + 1 + 1, 0, none⟩) 1 1, .func (.func 112) #[] #[], .slice (some ⟨w.heap.size + 1 + 1 + 1, 0, none⟩) 1 1, .func (.func 114) #[] #[], .slice (some ⟨W.heap.size, 0, none⟩) 4 4] 159) (.slice (some ⟨W.heap.size + 1 + 1, 0, none⟩) 3 3) (.bool true) (.int .i64 0) (.int .i64 (-4096)) (.int .i64 4094) (.int .i64 2)
  have Q0 := bl.hid q0
  have Q1 := bl.hid q1
  have Q2 := bl.hid q2
  have Q3 := bl.hid q3
  clear q0 q1 q2 q3
  clear z0 y0 z1 y1 z2 y2 z3 y3 z4 y4 z5 y5
  go_wp2
  refine bodyPost_ret (results_cell_row rfl _ _ w.heap.size 135 _ (0, 0) _ rfl Q0.out Tryz.underlying135 rfl shape_info) rfl ?_
  obtain ⟨q1, q2, q3⟩ := And.intro Q1.out (And.intro Q2.out Q3.out)
  have hp2 := (q3 (w.heap.size + 1 + 1) (by omega) (by rw [HF.out.size]; omega)).trans HF.out.b2
  have hp3 := (q3 (w.heap.size + 1 + 1 + 1) (by omega) (by rw [HF.out.size]; omega)).trans HF.out.b3
  exact ⟨_, _, fun _ => rfl, rfl, ⟨⟨w.heap.size + 1 + 1, (cell_of_row _ _ _ _ _ _ q2).trans rfl, (cell_of_row _ _ _ _ _ _ q2).trans rfl, ⟨(cell_of_row _ _ _ _ _ _ hp2).trans rfl, (cell_of_row _ _ _ _ _ _ hp2).trans rfl, (cell_of_row _ _ _ _ _ _ hp2).trans rfl⟩, trivial⟩, ⟨w.heap.size + 1 + 1 + 1, (cell_of_row _ _ _ _ _ _ q2).trans rfl, (cell_of_row _ _ _ _ _ _ q2).trans rfl, ⟨(cell_of_row _ _ _ _ _ _ hp3).trans rfl, (cell_of_row _ _ _ _ _ _ hp3).trans rfl, (cell_of_row _ _ _ _ _ _ hp3).trans rfl⟩, trivial⟩, ⟨W.heap.size, (cell_of_row _ _ _ _ _ _ q2).trans rfl, (cell_of_row _ _ _ _ _ _ q2).trans rfl, ⟨(cell_of_row _ _ _ _ _ _ q1).trans rfl, (cell_of_row _ _ _ _ _ _ q1).trans rfl, (cell_of_row _ _ _ _ _ _ q1).trans rfl⟩, ⟨(cell_of_row _ _ _ _ _ _ q1).trans rfl, (cell_of_row _ _ _ _ _ _ q1).trans rfl, (cell_of_row _ _ _ _ _ _ q1).trans rfl⟩, ⟨(cell_of_row _ _ _ _ _ _ q1).trans rfl, (cell_of_row _ _ _ _ _ _ q1).trans rfl, (cell_of_row _ _ _ _ _ _ q1).trans rfl⟩, ⟨(cell_of_row _ _ _ _ _ _ q1).trans rfl, (cell_of_row _ _ _ _ _ _ q1).trans rfl, (cell_of_row _ _ _ _ _ _ q1).trans rfl⟩, trivial⟩, trivial⟩, q4⟩
set_option maxRecDepth 100000 in
set_option maxHeartbeats 1600000 in
theorem shaped_U (w : World) : Calls Tryz.prog 92 #[.string ⟨#[85]⟩] w (ShapePost rv.shU w) := by
  have HF := bl.hid (first_of w)
  go_enter Tryz.func92, Tryz.ntmps92
  go_wp2_with fail
  generalize (((((((w.alloc (.cells #[.slice none 0 0, .bool false, .int .i64 0, .int .i64 0, .int .i64 0, .int .i64 0] 135)).alloc (.cells #[.int .i64 0, .int .i64 5, .int .i64 7] 156)).alloc (.cells #[.int .i64 0, .int .i64 5, .int .i64 15] 156)).alloc (.cells #[.int .i64 0, .int .i64 5, .int .i64 20] 156)).alloc (.cells #[.func (.func 110) #[] #[], .slice (some ⟨w.heap.size + 1, 0, none⟩) 1 1] 159)).alloc (.cells #[.func (.func 111) #[] #[], .slice (some ⟨w.heap.size + 1 + 1, 0, none⟩) 1 1] 159)).alloc (.cells #[.func (.func 112) #[] #[], .slice (some ⟨w.heap.size + 1 + 1 + 1, 0, none⟩) 1 1] 159)) = W at *
  have c40 : W.cell? ⟨w.heap.size + 1 + 1 + 1 + 1, 0, none⟩ = some (.func (.func 110) #[] #[]) := by rw [cell_of_row _ _ _ _ _ _ HF.out.b4]; rfl
  have c41 : W.cell? ⟨w.heap.size + 1 + 1 + 1 + 1, 1, none⟩ = some (.slice (some ⟨w.heap.size + 1, 0, none⟩) 1 1) := by rw [cell_of_row _ _ _ _ _ _ HF.out.b4]; rfl
  have l4 : w.heap.size + 1 + 1 + 1 + 1 < W.heap.size := by rw [HF.out.size]; omega
  have l0 : w.heap.size < W.heap.size := by rw [HF.out.size]; omega
  have HG : Hid (∀ x y z : Obj, (((W.alloc x).alloc y).alloc z).heap[w.heap.size]? = some (.cells #[.slice none 0 0, .bool false, .int .i64 0, .int .i64 0, .int .i64 0, .int .i64 0] 135)) := bl.hid fun x y z => (imm_old HF.out x y z).trans HF.out.b0
  have z0 : ∀ x y z : Obj, (((W.alloc x).alloc y).alloc z).cell? ⟨w.heap.size, 0, none⟩ = some (.slice none 0 0) := fun x y z => by rw [cell_of_row _ _ _ _ _ _ (HG.out x y z)]; rfl
  have y0 : ∀ x y z : Obj, (((W.alloc x).alloc y).alloc z).frozen? ⟨w.heap.size, 0, none⟩ = false := fun x y z => frozen_of_row _ _ _ _ _ (HG.out x y z)
  have z1 : ∀ x y z : Obj, (((W.alloc x).alloc y).alloc z).cell? ⟨w.heap.size, 1, none⟩ = some (.bool false) := fun x y z => by rw [cell_of_row _ _ _ _ _ _ (HG.out x y z)]; rfl
  have y1 : ∀ x y z : Obj, (((W.alloc x).alloc y).alloc z).frozen? ⟨w.heap.size, 1, none⟩ = false := fun x y z => frozen_of_row _ _ _ _ _ (HG.out x y z)
  have z2 : ∀ x y z : Obj, (((W.alloc x).alloc y).alloc z).cell? ⟨w.heap.size, 2, none⟩ = some (.int .i64 0) := fun x y z => by rw [cell_of_row _ _ _ _ _ _ (HG.out x y z)]; rfl
  have y2 : ∀ x y z : Obj, (((W.alloc x).alloc y).alloc z).frozen? ⟨w.heap.size, 2, none⟩ = false := fun x y z => frozen_of_row _ _ _ _ _ (HG.out x y z)
  have z3 : ∀ x y z : Obj, (((W.alloc x).alloc y).alloc z).cell? ⟨w.heap.size, 3, none⟩ = some (.int .i64 0) := fun x y z => by rw [cell_of_row _ _ _ _ _ _ (HG.out x y z)]; rfl
  have y3 : ∀ x y z : Obj, (((W.alloc x).alloc y).alloc z).frozen? ⟨w.heap.size, 3, none⟩ = false := fun x y z => frozen_of_row _ _ _ _ _ (HG.out x y z)
  have z4 : ∀ x y z : Obj, (((W.alloc x).alloc y).alloc z).cell? ⟨w.heap.size, 4, none⟩ = some (.int .i64 0) := fun x y z => by rw [cell_of_row _ _ _ _ _ _ (HG.out x y z)]; rfl
  have y4 : ∀ x y z : Obj, (((W.alloc x).alloc y).alloc z).frozen? ⟨w.heap.size, 4, none⟩ = false := fun x y z => frozen_of_row _ _ _ _ _ (HG.out x y z)
  have z5 : ∀ x y z : Obj, (((W.alloc x).alloc y).alloc z).cell? ⟨w.heap.size, 5, none⟩ = some (.int .i64 0) := fun x y z => by rw [cell_of_row _ _ _ _ _ _ (HG.out x y z)]; rfl
  have y5 : ∀ x y z : Obj, (((W.alloc x).alloc y).alloc z).frozen? ⟨w.heap.size, 5, none⟩ = false := fun x y z => frozen_of_row _ _ _ _ _ (HG.out x y z)
  go_region_held3 (fun w' => w'.cell? ⟨w.heap.size + 1 + 1 + 1 + 1, 0, none⟩ = some (.func (.func 110) #[] #[]) ∧ w'.cell? ⟨w.heap.size + 1 + 1 + 1 + 1, 1, none⟩ = some (.slice (some ⟨w.heap.size + 1, 0, none⟩) 1 1)) ((first | with_reducible assumption | ((try dsimp only); (try and_intros) <;> (repeat (first | with_reducible apply kt.cell_drew | with_reducible apply kt.cell_alloc | with_reducible refine kt.cell_set ?_ (by omega))) <;> with_reducible assumption)))
    ((first | (go_at_call 113; refine (shaped_imm _ _ _ _).mono ?_; rintro e w2 ⟨rfl, rfl⟩)))
  obtain ⟨q0, q1, q2, q3, q4⟩ := imm_world HF.out (.cells #[.int .i64 0, .int .i64 20, .int .i64 12] 156) (.cells #[.func (.func 114) #[] #[], .slice (some ⟨W.heap.size, 0, none⟩) 1 1] 159) (.cells #[.func (.func 110) #[] #[], .slice (some ⟨w.heap.size + 1, 0, none⟩) 1 1, .func (.func 114) #[] #[], .slice (some ⟨W.heap.size, 0, none⟩) 1 1] 159) (.slice (some ⟨W.heap.size + 1 + 1, 0, none⟩) 2 2) (.bool false) (.int .i64 0) (.int .i64 (-524288)) (.int .i64 524287) (.int .i64 1)
  have Q0 := bl.hid q0
  have Q1 := bl.hid q1
  have Q2 := bl.hid q2
  have Q3 := bl.hid q3
  clear q0 q1 q2 q3
  clear z0 y0 z1 y1 z2 y2 z3 y3 z4 y4 z5 y5
  go_wp2
  refine bodyPost_ret (results_cell_row rfl _ _ w.heap.size 135 _ (0, 0) _ rfl Q0.out Tryz.underlying135 rfl shape_info) rfl ?_
  obtain ⟨q1, q2, q3⟩ := And.intro Q1.out (And.intro Q2.out Q3.out)
  have hp1 := (q3 (w.heap.size + 1) (by omega) (by rw [HF.out.size]; omega)).trans HF.out.b1
  exact ⟨_, _, fun _ => rfl, rfl, ⟨⟨w.heap.size + 1, (cell_of_row _ _ _ _ _ _ q2).trans rfl, (cell_of_row _ _ _ _ _ _ q2).trans rfl, ⟨(cell_of_row _ _ _ _ _ _ hp1).trans rfl, (cell_of_row _ _ _ _ _ _ hp1).trans rfl, (cell_of_row _ _ _ _ _ _ hp1).trans rfl⟩, trivial⟩, ⟨W.heap.size, (cell_of_row _ _ _ _ _ _ q2).trans rfl, (cell_of_row _ _ _ _ _ _ q2).trans rfl, ⟨(cell_of_row _ _ _ _ _ _ q1).trans rfl, (cell_of_row _ _ _ _ _ _ q1).trans rfl, (cell_of_row _ _ _ _ _ _ q1).trans rfl⟩, trivial⟩, trivial⟩, q4⟩
set_option maxRecDepth 100000 in
set_option maxHeartbeats 1600000 in
theorem shaped_J (w : World) : Calls Tryz.prog 92 #[.string ⟨#[74]⟩] w (ShapePost rv.shJ w) := by
  have HF := bl.hid (first_of w)
  go_enter Tryz.func92, Tryz.ntmps92
  go_wp2_with fail
  generalize (((((((w.alloc (.cells #[.slice none 0 0, .bool false, .int .i64 0, .int .i64 0, .int .i64 0, .int .i64 0] 135)).alloc (.cells #[.int .i64 0, .int .i64 5, .int .i64 7] 156)).alloc (.cells #[.int .i64 0, .int .i64 5, .int .i64 15] 156)).alloc (.cells #[.int .i64 0, .int .i64 5, .int .i64 20] 156)).alloc (.cells #[.func (.func 110) #[] #[], .slice (some ⟨w.heap.size + 1, 0, none⟩) 1 1] 159)).alloc (.cells #[.func (.func 111) #[] #[], .slice (some ⟨w.heap.size + 1 + 1, 0, none⟩) 1 1] 159)).alloc (.cells #[.func (.func 112) #[] #[], .slice (some ⟨w.heap.size + 1 + 1 + 1, 0, none⟩) 1 1] 159)) = W at *
  have c40 : W.cell? ⟨w.heap.size + 1 + 1 + 1 + 1, 0, none⟩ = some (.func (.func 110) #[] #[]) := by rw [cell_of_row _ _ _ _ _ _ HF.out.b4]; rfl
  have c41 : W.cell? ⟨w.heap.size + 1 + 1 + 1 + 1, 1, none⟩ = some (.slice (some ⟨w.heap.size + 1, 0, none⟩) 1 1) := by rw [cell_of_row _ _ _ _ _ _ HF.out.b4]; rfl
  have l4 : w.heap.size + 1 + 1 + 1 + 1 < W.heap.size := by rw [HF.out.size]; omega
  have l0 : w.heap.size < W.heap.size := by rw [HF.out.size]; omega
  have HG : Hid (∀ x y z : Obj, (((W.alloc x).alloc y).alloc z).heap[w.heap.size]? = some (.cells #[.slice none 0 0, .bool false, .int .i64 0, .int .i64 0, .int .i64 0, .int .i64 0] 135)) := bl.hid fun x y z => (imm_old HF.out x y z).trans HF.out.b0
  have z0 : ∀ x y z : Obj, (((W.alloc x).alloc y).alloc z).cell? ⟨w.heap.size, 0, none⟩ = some (.slice none 0 0) := fun x y z => by rw [cell_of_row _ _ _ _ _ _ (HG.out x y z)]; rfl
  have y0 : ∀ x y z : Obj, (((W.alloc x).alloc y).alloc z).frozen? ⟨w.heap.size, 0, none⟩ = false := fun x y z => frozen_of_row _ _ _ _ _ (HG.out x y z)
  have z1 : ∀ x y z : Obj, (((W.alloc x).alloc y).alloc z).cell? ⟨w.heap.size, 1, none⟩ = some (.bool false) := fun x y z => by rw [cell_of_row _ _ _ _ _ _ (HG.out x y z)]; rfl
  have y1 : ∀ x y z : Obj, (((W.alloc x).alloc y).alloc z).frozen? ⟨w.heap.size, 1, none⟩ = false := fun x y z => frozen_of_row _ _ _ _ _ (HG.out x y z)
  have z2 : ∀ x y z : Obj, (((W.alloc x).alloc y).alloc z).cell? ⟨w.heap.size, 2, none⟩ = some (.int .i64 0) := fun x y z => by rw [cell_of_row _ _ _ _ _ _ (HG.out x y z)]; rfl
  have y2 : ∀ x y z : Obj, (((W.alloc x).alloc y).alloc z).frozen? ⟨w.heap.size, 2, none⟩ = false := fun x y z => frozen_of_row _ _ _ _ _ (HG.out x y z)
  have z3 : ∀ x y z : Obj, (((W.alloc x).alloc y).alloc z).cell? ⟨w.heap.size, 3, none⟩ = some (.int .i64 0) := fun x y z => by rw [cell_of_row _ _ _ _ _ _ (HG.out x y z)]; rfl
  have y3 : ∀ x y z : Obj, (((W.alloc x).alloc y).alloc z).frozen? ⟨w.heap.size, 3, none⟩ = false := fun x y z => frozen_of_row _ _ _ _ _ (HG.out x y z)
  have z4 : ∀ x y z : Obj, (((W.alloc x).alloc y).alloc z).cell? ⟨w.heap.size, 4, none⟩ = some (.int .i64 0) := fun x y z => by rw [cell_of_row _ _ _ _ _ _ (HG.out x y z)]; rfl
  have y4 : ∀ x y z : Obj, (((W.alloc x).alloc y).alloc z).frozen? ⟨w.heap.size, 4, none⟩ = false := fun x y z => frozen_of_row _ _ _ _ _ (HG.out x y z)
  have z5 : ∀ x y z : Obj, (((W.alloc x).alloc y).alloc z).cell? ⟨w.heap.size, 5, none⟩ = some (.int .i64 0) := fun x y z => by rw [cell_of_row _ _ _ _ _ _ (HG.out x y z)]; rfl
  have y5 : ∀ x y z : Obj, (((W.alloc x).alloc y).alloc z).frozen? ⟨w.heap.size, 5, none⟩ = false := fun x y z => frozen_of_row _ _ _ _ _ (HG.out x y z)
  go_region_held3 (fun w' => w'.cell? ⟨w.heap.size + 1 + 1 + 1 + 1, 0, none⟩ = some (.func (.func 110) #[] #[]) ∧ w'.cell? ⟨w.heap.size + 1 + 1 + 1 + 1, 1, none⟩ = some (.slice (some ⟨w.heap.size + 1, 0, none⟩) 1 1)) ((first | with_reducible assumption | ((try dsimp only); (try and_intros) <;> (repeat (first | with_reducible apply kt.cell_drew | with_reducible apply kt.cell_alloc | with_reducible refine kt.cell_set ?_ (by omega))) <;> with_reducible assumption)))
    ((first | (go_at_call 113; refine (shaped_imm _ _ _ _).mono ?_; rintro e w2 ⟨rfl, rfl⟩)))
  obtain ⟨q0, q1, q2, q3, q4⟩ := imm_world HF.out (.cells #[.int .i64 12, .int .i64 8, .int .i64 12, .int .i64 11, .int .i64 1, .int .i64 20, .int .i64 1, .int .i64 10, .int .i64 21, .int .i64 20, .int .i64 1, .int .i64 31] 156) (.cells #[.func (.func 114) #[] #[], .slice (some ⟨W.heap.size, 0, none⟩) 4 4] 159) (.cells #[.func (.func 110) #[] #[], .slice (some ⟨w.heap.size + 1, 0, none⟩) 1 1, .func (.func 114) #[] #[], .slice (some ⟨W.heap.size, 0, none⟩) 4 4] 159) (.slice (some ⟨W.heap.size + 1 + 1, 0, none⟩) 2 2) (.bool false) (.int .i64 0) (.int .i64 (-1048576)) (.int .i64 1048574) (.int .i64 2)
  have Q0 := bl.hid q0
  have Q1 := bl.hid q1
  have Q2 := bl.hid q2
  have Q3 := bl.hid q3
  clear q0 q1 q2 q3
  clear z0 y0 z1 y1 z2 y2 z3 y3 z4 y4 z5 y5
  go_wp2
  refine bodyPost_ret (results_cell_row rfl _ _ w.heap.size 135 _ (0, 0) _ rfl Q0.out Tryz.underlying135 rfl shape_info) rfl ?_
  obtain ⟨q1, q2, q3⟩ := And.intro Q1.out (And.intro Q2.out Q3.out)
  have hp1 := (q3 (w.heap.size + 1) (by omega) (by rw [HF.out.size]; omega)).trans HF.out.b1
  exact ⟨_, _, fun _ => rfl, rfl, ⟨⟨w.heap.size + 1, (cell_of_row _ _ _ _ _ _ q2).trans rfl, (cell_of_row _ _ _ _ _ _ q2).trans rfl, ⟨(cell_of_row _ _ _ _ _ _ hp1).trans rfl, (cell_of_row _ _ _ _ _ _ hp1).trans rfl, (cell_of_row _ _ _ _ _ _ hp1).trans rfl⟩, trivial⟩, ⟨W.heap.size, (cell_of_row _ _ _ _ _ _ q2).trans rfl, (cell_of_row _ _ _ _ _ _ q2).trans rfl, ⟨(cell_of_row _ _ _ _ _ _ q1).trans rfl, (cell_of_row _ _ _ _ _ _ q1).trans rfl, (cell_of_row _ _ _ _ _ _ q1).trans rfl⟩, ⟨(cell_of_row _ _ _ _ _ _ q1).trans rfl, (cell_of_row _ _ _ _ _ _ q1).trans rfl, (cell_of_row _ _ _ _ _ _ q1).trans rfl⟩, ⟨(cell_of_row _ _ _ _ _ _ q1).trans rfl, (cell_of_row _ _ _ _ _ _ q1).trans rfl, (cell_of_row _ _ _ _ _ _ q1).trans rfl⟩, ⟨(cell_of_row _ _ _ _ _ _ q1).trans rfl, (cell_of_row _ _ _ _ _ _ q1).trans rfl, (cell_of_row _ _ _ _ _ _ q1).trans rfl⟩, trivial⟩, trivial⟩, q4⟩
end Go.Proofs.YtjjkocklpcdbkaaGreat
