/- New; and what a memory that nobody made answers: each by a contract. -/
import Derived.Test.YtkohmoekomegnaaMemMore
namespace Go.Proofs.Ytkohmoekomegnaa
open Go.RowKit
set_option linter.unusedVariables false

theorem cells_zero (n : Nat) : (madeCells #[Value.int .u8 0] n).toList = (List.replicate n (0 : Int)).map (Value.int .u8) := by
  refine List.ext_getElem (by simp [madeCells]) fun i h1 h2 => ?_
  simp [madeCells, Nat.mod_one]
theorem row_of_own {w : World} {B g n c : Nat} {xs : List Value} (h : w.ownsRow B 5 1 (.slice (some ⟨g, 0, none⟩) n c) n xs) : n ≤ c ∧ ∃ rest : List Value, w.heap[g]? = some (.cells (xs ++ rest).toArray 5 (0, 0)) := by
  rcases h.2 with ⟨hv, _⟩ | ⟨g', cap, cur, hv, h2, h3, h4, h5, h6, h7⟩
  · cases hv
  · simp only [Value.slice.injEq, Option.some.injEq, Addr.mk.injEq] at hv
    obtain ⟨⟨rfl, -, -⟩, -, rfl⟩ := hv
    refine ⟨h4, cur.toList.drop (n * 1), ?_⟩
    rw [h3, ← h7]
    simp
theorem isBytes_zero (n : Nat) : wd.isBytes (List.replicate n (0 : Int)) := by
  intro z hz
  rw [List.eq_of_mem_replicate hz]
  omega
def NewPost (n : Nat) (w : World) (e : Ending) (w' : World) : Prop :=
  ∃ p g, e = .returned (.tuple #[.pointer (some ⟨p, 0, none⟩), .int .i64 0]) ∧ w.heap.size ≤ p ∧ w.heap.size ≤ g ∧ IsMem w' p g (List.replicate n 0) ∧ Below w.heap.size w w'
theorem new_ok (n : Nat) (w : World) (h0 : 16 ≤ n) (h1 : n ≤ 65536) : Calls Try.prog 20 #[.int .i64 n] w (NewPost n w) := by
  obtain ⟨i0, hi, hz0, hz1, hz2⟩ := info_parts u8_info
  have n1 : decide ((n : Int) < 16) = false := decide_eq_false (by omega)
  have n2 : decide ((65536 : Int) < (n : Int)) = false := decide_eq_false (by omega)
  go_enter Try.func20, Try.ntmps20
  go_wp2_with (refine wpList_make_full _ rfl _ _ 22 rfl w.heap.size 5 i0 (.int .u8 0) 1 Try.underlying22 hi hz0 hz1 .i64 .i64 _ _ n rfl rfl rfl rfl (by rw [hz2]; omega) (by unfold maxLen; omega) (Nat.le_refl _) ?_)
  intro w1 hown hgr
  have hrow := row_of_own hown
  have hl := (hown.lt w.heap.size rfl).2
  have hb : Below w.heap.size w w1 := (Below.refl _ _).grown hgr (Nat.le_refl _) (fun k hk => by cases hk)
  have hm : IsMem (w1.alloc (.cells #[.slice (some ⟨w.heap.size, 0, none⟩) n n] 55)) w1.heap.size w.heap.size (List.replicate n 0) := by
    obtain ⟨_, rest, hr⟩ := hrow
    refine ⟨by omega, ⟨n, by simp, by rw [List.length_replicate]; exact heap_alloc_new w1 _⟩, ⟨rest, ?_⟩, isBytes_zero n, by simpa using h1⟩
    rw [heap_alloc_old w1 _ hl, hr, cells_zero]
  have HM := bl.hid hm
  clear hm hown hgr hrow
  go_wp2
  go_ret2
  exact ⟨_, _, rfl, hb.size, Nat.le_refl _, HM.out, hb.alloc hb.size _⟩
theorem new_no (n : Int) (w : World) (h : n < 16 ∨ 65536 < n) : Calls Try.prog 20 #[.int .i64 n] w fun e w' => e = .returned (.tuple #[.pointer none, .int .i64 2]) ∧ w = w' := by
  by_cases h1 : n < 16
  · clear h
    go_enter Try.func20, Try.ntmps20
    go_wp2
    go_ret2
    exact ⟨rfl, rfl⟩
  · have h2 : 65536 < n := by omega
    clear h
    go_enter Try.func20, Try.ntmps20
    go_wp2
    go_ret2
    exact ⟨rfl, rfl⟩

/-! ### what nobody made: nil, or a struct without bytes -/
/-- the pointer m is nil, or is to a struct without bytes -/
def NoMem (w : World) (m : Value) : Prop := m = .pointer none ∨ ∃ p n c, m = .pointer (some ⟨p, 0, none⟩) ∧ w.cell? ⟨p, 0, none⟩ = some (.slice none n c)
theorem NoMem.keep {w w' : World} {m : Value} (h : NoMem w m) (hb : Below w.heap.size w w') : NoMem w' m := by
  rcases h with h | ⟨p, n, c, h1, h2⟩
  · exact .inl h
  · exact .inr ⟨p, n, c, h1, (hb.cell (p := ⟨p, 0, none⟩) (block_lt_of_cell h2)).trans h2⟩
theorem none_not (m : Value) (w : World) (h : NoMem w m) : Calls Try.prog 29 #[m] w fun e w' => e = .returned (.bool true) ∧ w = w' := by
  rcases h with rfl | ⟨p, n, c, rfl, hc⟩
  · exact none_nil w
  · exact none_empty p n c w hc
theorem access_none (m : Value) (at' n : Int) (may : Bool) (f : Value) (w : World) (h : NoMem w m) : Calls Try.prog 27 #[m, .int .u64 at', .int .i64 n, .bool may, f] w fun e w' => e = .returned (.int .i64 1) ∧ w = w' := by
  rcases h with rfl | ⟨p, k, c, rfl, hc⟩
  · exact access_nil at' n may f w
  · exact access_empty p k c at' n may f w hc
/-- is that a size of a number: for any number -/
theorem sized_any (n : Int) (w : World) : Calls Try.prog 32 #[.int .i64 n] w fun e w' => e = .returned (.bool (pl.sizB n)) ∧ w = w' := by
  by_cases h : n = 1 ∨ n = 2 ∨ n = 4 ∨ n = 8
  · obtain ⟨k, rfl⟩ : ∃ k : Nat, n = k := ⟨n.toNat, by omega⟩
    rw [show pl.sizB k = true from decide_eq_true h]
    exact sized_yes k w (by omega)
  · rw [show pl.sizB n = false from decide_eq_false h]
    exact sized_no n w h
theorem load_none (m : Value) (at' n : Int) (w : World) (h : NoMem w m) : Calls Try.prog 26 #[m, .int .u64 at', .int .i64 n] w fun e w' => e = .returned (.tuple #[.int .u64 0, .int .i64 1]) ∧ Below w.heap.size w w' := by
  have hmf : ∀ (fn : Fn) (first cap : Array Value) (w : World), (Instr.makeFunc fn first cap).run Try.prog w = .ok (.func fn first cap) w := fun _ _ _ _ => rfl
  have H := bl.hid (h.keep (kt.below_row (.cells #[.int .u64 0] 23)))
  clear h
  go_enter Try.func26, Try.ntmps26
  go_wp2_with fail
  refine (sized_any n _).mono ?_
  rintro e w' ⟨rfl, rfl⟩
  go_wp2_with fail
  refine (access_none m at' n _ _ _ H.out).mono ?_
  rintro e w' ⟨rfl, rfl⟩
  go_wp2
  go_ret2
  exact ⟨rfl, kt.below_row _⟩
theorem bytes_none (m : Value) (at' n : Int) (w : World) (h : NoMem w m) : Calls Try.prog 17 #[m, .int .u64 at', .int .i64 n] w fun e w' => e = .returned (.tuple #[.slice none 0 0, .int .i64 1]) ∧ Below w.heap.size w w' := by
  have hmf : ∀ (fn : Fn) (first cap : Array Value) (w : World), (Instr.makeFunc fn first cap).run Try.prog w = .ok (.func fn first cap) w := fun _ _ _ _ => rfl
  have H := bl.hid (h.keep (kt.below_row (.cells #[.slice none 0 0] 22)))
  clear h
  go_enter Try.func17, Try.ntmps17
  go_wp2_with fail
  refine (access_none m at' n _ _ _ H.out).mono ?_
  rintro e w' ⟨rfl, rfl⟩
  go_wp2
  go_ret2
  exact ⟨rfl, kt.below_row _⟩
theorem lay_none (m : Value) (at' : Int) (a : Option Addr) (n c : Nat) (w : World) (h : NoMem w m) : Calls Try.prog 10 #[m, .int .u64 at', .slice a n c] w fun e w' => e = .returned (.int .i64 1) ∧ Below w.heap.size w w' := by
  have hmf : ∀ (fn : Fn) (first cap : Array Value) (w : World), (Instr.makeFunc fn first cap).run Try.prog w = .ok (.func fn first cap) w := fun _ _ _ _ => rfl
  have H := bl.hid (h.keep (kt.below_row (.cells #[.slice a n c] 22)))
  clear h
  go_enter Try.func10, Try.ntmps10
  go_wp2_with fail
  refine (access_none m at' n _ _ _ H.out).mono ?_
  rintro e w' ⟨rfl, rfl⟩
  go_wp2
  go_ret
  exact ⟨rfl, kt.below_row _⟩
theorem store_none (m : Value) (at' n x : Int) (w : World) (h : NoMem w m) : Calls Try.prog 15 #[m, .int .u64 at', .int .i64 n, .int .u64 x] w fun e w' => e = .returned (.int .i64 1) ∧ Below w.heap.size w w' := by
  have hmf : ∀ (fn : Fn) (first cap : Array Value) (w : World), (Instr.makeFunc fn first cap).run Try.prog w = .ok (.func fn first cap) w := fun _ _ _ _ => rfl
  have H := bl.hid (h.keep (below_two w (.cells #[.int .i64 n] 3) (.cells #[.int .u64 x] 23)))
  clear h
  go_enter Try.func15, Try.ntmps15
  go_wp2_with fail
  refine wp_region_still_tail 6 (by kernel_rfl) (by kernel_rfl) ?_
  simp only [List.take_succ_cons, List.take_zero, List.drop_succ_cons, List.drop_zero]
  change wpStill _ _ (World.drew _) _ _ _
  repeat still_step
  still_call ((sized_any n _).mono fun e w' h => ⟨h.1, h.2.symm⟩)
  repeat still_step
  refine wpStill_nil ?_
  change wpList _ _ _ _ _ (World.drew _)
  go_wp2_with fail
  refine (access_none m at' n _ _ _ H.out).mono ?_
  rintro e w' ⟨rfl, rfl⟩
  go_wp2
  go_ret
  exact ⟨rfl, below_two w _ _⟩
theorem size_none (m : Value) (w : World) (h : NoMem w m) : Calls Try.prog 23 #[m] w fun e w' => e = .returned (.int .i64 0) ∧ w = w' := by
  have H := bl.hid h
  clear h
  go_enter Try.func23, Try.ntmps23
  go_wp2_with fail
  refine (none_not m _ H.out).mono ?_
  rintro e w' ⟨rfl, rfl⟩
  go_wp2
  go_ret
  exact ⟨rfl, rfl⟩
theorem mcopy_none (m : Value) (w : World) (h : NoMem w m) : Calls Try.prog 12 #[m] w fun e w' => e = .returned (.pointer none) ∧ w = w' := by
  have H := bl.hid h
  clear h
  go_enter Try.func12, Try.ntmps12
  go_wp2_with fail
  refine (none_not m _ H.out).mono ?_
  rintro e w' ⟨rfl, rfl⟩
  go_wp2
  go_ret
  exact ⟨rfl, rfl⟩
/-- Same, where the first is none -/
theorem msame_none (m k : Value) (w : World) (h : NoMem w m) :
    Calls Try.prog 13 #[m, k] w fun e w' => e = .returned (.bool false) ∧ Below w.heap.size w w' := by
  have H : Hid (∀ n, NoMem (w.drewN n) m) := bl.hid fun n => h.keep (below_drewN' w n)
  clear h
  go_enter Try.func13, Try.ntmps13
  go_wp2_with fail
  go_quiet ((go_at_call 29; exact Calls.quiet_of_same ((none_not m _ (H.out _)).mono fun e w' q => ⟨q.1, q.2.symm⟩)))
  go_wp2
  go_ret
  exact ⟨rfl, below_drewN' _ _⟩
/-- Same, where the second is none -/
theorem msame_none2 (p g : Nat) (l : List Int) (k : Value) (w : World) (hm : IsMem w p g l) (h : NoMem w k) :
    Calls Try.prog 13 #[.pointer (some ⟨p, 0, none⟩), k] w fun e w' => e = .returned (.bool false) ∧ Below w.heap.size w w' := by
  obtain ⟨cap, hcap, hc⟩ := hm.cell
  have H : Hid (∀ n, NoMem (w.drewN n) k) := bl.hid fun n => h.keep (below_drewN' w n)
  have HC : Hid (∀ n, (w.drewN n).cell? ⟨p, 0, none⟩ = some (.slice (some ⟨g, 0, none⟩) l.length cap)) := bl.hid fun n => by simpa using hc
  clear h hm
  go_enter Try.func13, Try.ntmps13
  go_wp2_with fail
  go_quiet ((first
    | (go_at_call 29; with_reducible exact Calls.quiet_of_same ((none_no p g l.length cap _ (HC.out _)).mono fun e w' q => ⟨q.1, q.2.symm⟩))
    | (go_at_call 29; with_reducible exact Calls.quiet_of_same ((none_not k _ (H.out _)).mono fun e w' q => ⟨q.1, q.2.symm⟩))))
  go_wp2
  go_ret
  exact ⟨rfl, below_drewN' _ _⟩
end Go.Proofs.Ytkohmoekomegnaa
