/- MemNone, walked: it returns true. -/
import Derived.Test.YtkohmoekomegnaaMemKeep
import Derived.Test.YtkohmoekomegnaaMemCome
import Derived.Deep.RegionHeld3
namespace Go.Proofs.Ytkohmoekomegnaa
open Go.RowKit
set_option linter.unusedVariables false

/-- what MemNone's regions read: the list's element i (the value m), the call's box -/
structure NoneAt (w : World) (A i B : Nat) (m : Value) (xn xa xv : Int) (ba : Option Addr) (bn bc : Nat) (p g : Nat) (l : List Int) : Prop where
  c : w.cell? ⟨A, i, none⟩ = some m ∧ w.cell? ⟨B, 1, none⟩ = some (.int .i64 xn) ∧ w.cell? ⟨B, 2, none⟩ = some (.int .u64 xa) ∧ w.cell? ⟨B, 3, none⟩ = some (.int .u64 xv) ∧ w.cell? ⟨B, 4, none⟩ = some (.slice ba bn bc)
  none : NoMem w m
  mem : IsMem w p g l
theorem NoneAt.keep {w w' : World} {A i B : Nat} {m : Value} {xn xa xv : Int} {ba : Option Addr} {bn bc p g : Nat} {l : List Int} (h : NoneAt w A i B m xn xa xv ba bn bc p g l) (hb : Below w.heap.size w w') : NoneAt w' A i B m xn xa xv ba bn bc p g l := by
  obtain ⟨⟨c0, c1, c2, c3, c4⟩, h1, h2⟩ := h
  exact ⟨⟨(hb.cell (p := ⟨A, i, Option.none⟩) (block_lt_of_cell c0)).trans c0, (hb.cell (p := ⟨B, 1, Option.none⟩) (block_lt_of_cell c1)).trans c1, (hb.cell (p := ⟨B, 2, Option.none⟩) (block_lt_of_cell c2)).trans c2, (hb.cell (p := ⟨B, 3, Option.none⟩) (block_lt_of_cell c3)).trans c3, (hb.cell (p := ⟨B, 4, Option.none⟩) (block_lt_of_cell c4)).trans c4⟩, h1.keep hb, h2.keep hb⟩
theorem NoneAt.drew {w : World} {A i B : Nat} {m : Value} {xn xa xv : Int} {ba : Option Addr} {bn bc p g : Nat} {l : List Int} (h : NoneAt w A i B m xn xa xv ba bn bc p g l) : NoneAt w.drew A i B m xn xa xv ba bn bc p g l := h.keep ((Below.refl _ _).drew)
/-- both elements of the list -/
def NoneAll (w : World) (A B : Nat) (xn xa xv : Int) (ba : Option Addr) (bn bc p g : Nat) (l : List Int) : Prop := ∀ k, k < 2 → ∃ m, NoneAt w A k B m xn xa xv ba bn bc p g l
theorem NoneAll.keep {w w' : World} {A B : Nat} {xn xa xv : Int} {ba : Option Addr} {bn bc p g : Nat} {l : List Int} (h : NoneAll w A B xn xa xv ba bn bc p g l) (hb : Below w.heap.size w w') : NoneAll w' A B xn xa xv ba bn bc p g l :=
  fun k hk => (h k hk).imp fun m q => q.keep hb
abbrev actBox (kd xn xa xv : Int) (ba : Option Addr) (bn bc : Nat) : Obj := .cells #[.int .i64 kd, .int .i64 xn, .int .u64 xa, .int .u64 xv, .slice ba bn bc] 45
theorem one_act (w : World) (kd xn xa xv : Int) (ba : Option Addr) (bn bc : Nat) (bs : List Int) (h : kt.ActOk w ⟨kd, xn, xa, xv, ba, bn, bc, bs⟩) :
    kt.Acts (w.alloc (actBox kd xn xa xv ba bn bc)) (some ⟨w.heap.size, 0, none⟩) 1 (fun _ => ⟨kd, xn, xa, xv, ba, bn, bc, bs⟩) := by
  refine ⟨by omega, fun i hi => h.keep (kt.below_row _), .inr ⟨_, _, rfl, fun i hi => ?_⟩⟩
  obtain rfl : i = 0 := by omega
  exact ⟨by simp, by simp, by simp, by simp, by simp⟩

theorem none_world (w w1 : World) (o0 o1 o2 o3 : Obj) (hb : Below ((((w.alloc o0).alloc o1).alloc o2).alloc o3).heap.size ((((w.alloc o0).alloc o1).alloc o2).alloc o3) w1) :
    w1.heap[w.heap.size]? = some o0 ∧ w1.heap[w.heap.size + 1 + 1]? = some o2 ∧ w1.heap[w.heap.size + 1 + 1 + 1]? = some o3 ∧ Below w.heap.size w w1 := by
  have s1 : (w.alloc o0).heap.size = w.heap.size + 1 := World.size_alloc _ _
  have s2 : ((w.alloc o0).alloc o1).heap.size = w.heap.size + 1 + 1 := by rw [World.size_alloc, s1]
  have s3 : (((w.alloc o0).alloc o1).alloc o2).heap.size = w.heap.size + 1 + 1 + 1 := by rw [World.size_alloc, s2]
  have s4 : ((((w.alloc o0).alloc o1).alloc o2).alloc o3).heap.size = w.heap.size + 1 + 1 + 1 + 1 := by rw [World.size_alloc, s3]
  refine ⟨?_, ?_, ?_, (((((Below.refl _ _).alloc (Nat.le_refl _) o0).alloc (by omega) o1).alloc (by omega) o2).alloc (by omega) o3).trans (hb.mono (by omega))⟩
  · rw [hb.block _ (by omega), heap_alloc_old _ _ (by omega), heap_alloc_old _ _ (by omega), heap_alloc_old _ _ (by omega), heap_alloc_new]
  · rw [hb.block _ (by omega), heap_alloc_old _ _ (by omega), ← s2, heap_alloc_new]
  · rw [hb.block _ (by omega), ← s3, heap_alloc_new]
set_option maxRecDepth 100000 in
set_option maxHeartbeats 12800000 in
theorem none_core (kd xn xa xv : Int) (ba : Option Addr) (bn bc : Nat) (bs : List Int) (w : World) (h : kt.ActOk w ⟨kd, xn, xa, xv, ba, bn, bc, bs⟩) (hn : bn ≤ 200) :
    Calls Try.prog 7 #[.agg #[.int .i64 kd, .int .i64 xn, .int .u64 xa, .int .u64 xv, .slice ba bn bc]] w fun e w' => e = .returned (.bool true) ∧ Below w.heap.size w w' := by
  have HX := bl.hid h
  have H1 : Hid (kt.Acts ((w.alloc (actBox kd xn xa xv ba bn bc)).alloc (actBox kd xn xa xv ba bn bc)) (some ⟨w.heap.size + 1, 0, none⟩) 1 (fun _ => ⟨kd, xn, xa, xv, ba, bn, bc, bs⟩)) := bl.hid (by
    have := one_act (w.alloc (actBox kd xn xa xv ba bn bc)) kd xn xa xv ba bn bc bs (h.keep (kt.below_row _))
    rwa [World.size_alloc] at this)
  have HG : Hid (kt.longB 1 (fun _ => ⟨kd, xn, xa, xv, ba, bn, bc, bs⟩) = false) := bl.hid (by
    unfold kt.longB
    rw [decide_eq_false (by rintro ⟨i, hi, g⟩; have : 200 < bn := g; omega)]
    rfl)
  clear h
  go_enter Try.func7, Try.ntmps7
  go_wp2_with fail
  refine (long_any _ 1 1 _ _ H1.out).mono ?_
  rw [HG.out]
  rintro e w' ⟨rfl, rfl⟩
  go_wp2_with fail
  refine (new_ok 32 _ (by omega) (by omega)).mono ?_
  rintro e w1 ⟨p, g, rfl, hp, hg, hm, hb⟩
  have hnw := none_world w w1 _ _ _ _ hb
  have HA : Hid (NoneAll w1 (w.heap.size + 1 + 1 + 1) w.heap.size xn xa xv ba bn bc p g (List.replicate 32 0)) := bl.hid (by
    obtain ⟨x0, x2, x3, -⟩ := hnw
    have b1 : w1.cell? ⟨w.heap.size, 1, none⟩ = some (Value.int .i64 xn) := by rw [cell_of_row w1 _ 1 _ _ _ x0]; rfl
    have b2 : w1.cell? ⟨w.heap.size, 2, none⟩ = some (Value.int .u64 xa) := by rw [cell_of_row w1 _ 2 _ _ _ x0]; rfl
    have b3 : w1.cell? ⟨w.heap.size, 3, none⟩ = some (Value.int .u64 xv) := by rw [cell_of_row w1 _ 3 _ _ _ x0]; rfl
    have b4 : w1.cell? ⟨w.heap.size, 4, none⟩ = some (Value.slice ba bn bc) := by rw [cell_of_row w1 _ 4 _ _ _ x0]; rfl
    have m0 : w1.cell? ⟨w.heap.size + 1 + 1, 0, none⟩ = some (Value.slice none 0 0) := by rw [cell_of_row w1 _ 0 _ _ _ x2]; rfl
    have l0 : w1.cell? ⟨w.heap.size + 1 + 1 + 1, 0, none⟩ = some (Value.pointer none) := by rw [cell_of_row w1 _ 0 _ _ _ x3]; rfl
    have l1 : w1.cell? ⟨w.heap.size + 1 + 1 + 1, 1, none⟩ = some (Value.pointer (some ⟨w.heap.size + 1 + 1, 0, none⟩)) := by rw [cell_of_row w1 _ 1 _ _ _ x3]; rfl
    intro k hk
    have hk2 : k = 0 ∨ k = 1 := by omega
    rcases hk2 with rfl | rfl
    · exact ⟨.pointer none, ⟨l0, b1, b2, b3, b4⟩, .inl rfl, hm⟩
    · exact ⟨.pointer (some ⟨w.heap.size + 1 + 1, 0, none⟩), ⟨l1, b1, b2, b3, b4⟩, .inr ⟨_, _, _, rfl, m0⟩, hm⟩)
  have hbw1 := hnw.2.2.2
  clear hnw hb hm hp hg
  go_wp2
  go_loopw [6, 7, 8, 9, 10] (fun i _ _ _ _ wr => ∃ k : Nat, k ≤ 2 ∧ i = .int .i64 k ∧ NoneAll wr (w.heap.size + 1 + 1 + 1) w.heap.size xn xa xv ba bn bc p g (List.replicate 32 0) ∧ Below w.heap.size w wr) (fun i _ _ _ _ _ => 2 - (intOf i).toNat)
  case atStart => exact ⟨0, by omega, rfl, HA.out, hbw1⟩
  case round =>
    obtain ⟨k, hk, rfl, hall, hbw⟩ := hrel
    clear HA hbw1
    by_cases hlt : k < 2
    · have hd : decide ((k : Int) < 2) = true := decide_eq_true (by omega)
      have hk0 : (k : Int) < 2 := by omega
      obtain ⟨m, hN⟩ := hall k hlt
      have HALL := bl.hid hall
      have hb0 : Below wr.heap.size wr wr.drew := (Below.refl _ _).drew
      have hsw := hbw.size
      have HS := bl.hid hN.drew
      have hcs0 := hN.c
      have hcs := HS.out.c
      clear hN hall
      go_wp2_with fail
      go_region_held3 (fun w' => w'.cell? ⟨w.heap.size + 1 + 1 + 1, k, none⟩ = some m ∧ w'.cell? ⟨w.heap.size, 1, none⟩ = some (.int .i64 xn) ∧ w'.cell? ⟨w.heap.size, 2, none⟩ = some (.int .u64 xa) ∧ w'.cell? ⟨w.heap.size, 3, none⟩ = some (.int .u64 xv) ∧ w'.cell? ⟨w.heap.size, 4, none⟩ = some (.slice ba bn bc)) ((first | assumption | go_keep))
        ((first | (go_at_call 26; (with_reducible refine (load_none m xa xn _ HS.out.none).mono ?_); rintro e w2 ⟨rfl, hb2⟩; replace HS := bl.hid (HS.out.keep hb2); replace hcs := HS.out.c; replace hb0 := hb0.trans (hb2.mono hb0.size); clear hb2)))
      have hcs1 := hcs
      replace HS := bl.hid HS.out.drew
      replace hcs := HS.out.c
      replace hb0 := hb0.drew
      go_wp2_with fail
      go_region_held3 (fun w' => w'.cell? ⟨w.heap.size + 1 + 1 + 1, k, none⟩ = some m ∧ w'.cell? ⟨w.heap.size, 1, none⟩ = some (.int .i64 xn) ∧ w'.cell? ⟨w.heap.size, 2, none⟩ = some (.int .u64 xa) ∧ w'.cell? ⟨w.heap.size, 3, none⟩ = some (.int .u64 xv) ∧ w'.cell? ⟨w.heap.size, 4, none⟩ = some (.slice ba bn bc)) ((first | assumption | go_keep))
        ((first | (go_at_call 17; (with_reducible refine (bytes_none m xa xn _ HS.out.none).mono ?_); rintro e w2 ⟨rfl, hb2⟩; replace HS := bl.hid (HS.out.keep hb2); replace hcs := HS.out.c; replace hb0 := hb0.trans (hb2.mono hb0.size); clear hb2) | (go_at_call 15; (with_reducible refine (store_none m xa xn xv _ HS.out.none).mono ?_); rintro e w2 ⟨rfl, hb2⟩; replace HS := bl.hid (HS.out.keep hb2); replace hcs := HS.out.c; replace hb0 := hb0.trans (hb2.mono hb0.size); clear hb2) | (go_at_call 10; (with_reducible refine (lay_none m xa ba bn bc _ HS.out.none).mono ?_); rintro e w2 ⟨rfl, hb2⟩; replace HS := bl.hid (HS.out.keep hb2); replace hcs := HS.out.c; replace hb0 := hb0.trans (hb2.mono hb0.size); clear hb2) | (go_at_call 23; (with_reducible refine (size_none m _ HS.out.none).mono ?_); rintro e w2 ⟨rfl, rfl⟩) | (go_at_call 12; (with_reducible refine (mcopy_none m _ HS.out.none).mono ?_); rintro e w2 ⟨rfl, rfl⟩) | (go_at_call 13; (with_reducible refine (msame_none m _ _ HS.out.none).mono ?_); rintro e w2 ⟨rfl, hb2⟩; replace HS := bl.hid (HS.out.keep hb2); replace hcs := HS.out.c; replace hb0 := hb0.trans (hb2.mono hb0.size); clear hb2) | (go_at_call 13; (with_reducible refine (msame_none2 p g _ m _ HS.out.mem HS.out.none).mono ?_); rintro e w2 ⟨rfl, hb2⟩; replace HS := bl.hid (HS.out.keep hb2); replace hcs := HS.out.c; replace hb0 := hb0.trans (hb2.mono hb0.size); clear hb2)))
      have hcs2 := hcs
      replace HS := bl.hid HS.out.drew
      replace hcs := HS.out.c
      replace hb0 := hb0.drew
      go_wp2
      simp only [List.append_eq, List.cons_append, List.nil_append]
      go_region_held3 (fun w' => w'.cell? ⟨w.heap.size + 1 + 1 + 1, k, none⟩ = some m ∧ w'.cell? ⟨w.heap.size, 1, none⟩ = some (.int .i64 xn) ∧ w'.cell? ⟨w.heap.size, 2, none⟩ = some (.int .u64 xa) ∧ w'.cell? ⟨w.heap.size, 3, none⟩ = some (.int .u64 xv) ∧ w'.cell? ⟨w.heap.size, 4, none⟩ = some (.slice ba bn bc)) ((first | assumption | go_keep))
        ((first | (go_at_call 17; (with_reducible refine (bytes_none m xa xn _ HS.out.none).mono ?_); rintro e w2 ⟨rfl, hb2⟩; replace HS := bl.hid (HS.out.keep hb2); replace hcs := HS.out.c; replace hb0 := hb0.trans (hb2.mono hb0.size); clear hb2) | (go_at_call 15; (with_reducible refine (store_none m xa xn xv _ HS.out.none).mono ?_); rintro e w2 ⟨rfl, hb2⟩; replace HS := bl.hid (HS.out.keep hb2); replace hcs := HS.out.c; replace hb0 := hb0.trans (hb2.mono hb0.size); clear hb2) | (go_at_call 10; (with_reducible refine (lay_none m xa ba bn bc _ HS.out.none).mono ?_); rintro e w2 ⟨rfl, hb2⟩; replace HS := bl.hid (HS.out.keep hb2); replace hcs := HS.out.c; replace hb0 := hb0.trans (hb2.mono hb0.size); clear hb2) | (go_at_call 23; (with_reducible refine (size_none m _ HS.out.none).mono ?_); rintro e w2 ⟨rfl, rfl⟩) | (go_at_call 12; (with_reducible refine (mcopy_none m _ HS.out.none).mono ?_); rintro e w2 ⟨rfl, rfl⟩) | (go_at_call 13; (with_reducible refine (msame_none m _ _ HS.out.none).mono ?_); rintro e w2 ⟨rfl, hb2⟩; replace HS := bl.hid (HS.out.keep hb2); replace hcs := HS.out.c; replace hb0 := hb0.trans (hb2.mono hb0.size); clear hb2) | (go_at_call 13; (with_reducible refine (msame_none2 p g _ m _ HS.out.mem HS.out.none).mono ?_); rintro e w2 ⟨rfl, hb2⟩; replace HS := bl.hid (HS.out.keep hb2); replace hcs := HS.out.c; replace hb0 := hb0.trans (hb2.mono hb0.size); clear hb2)))
      have HN2 := bl.hid (HALL.out.keep hb0)
      have hbz := hbw.trans (hb0.mono hsw)
      go_wp2
      go_roundw
      case rel => first | exact ⟨k + 1, by omega, by go_num, HN2.out, hbz⟩ | ((repeat apply Exists.intro); refine ⟨⟨k + 1, by omega, by go_num, HN2.out, hbz⟩, ?_⟩; and_intros <;> rfl)
      case measure => simp [intOf]; omega
    · obtain rfl : k = 2 := by omega
      have sw := hbw.size
      go_wp2_with fail
      refine (awake_true _).mono ?_
      rintro e v9 ⟨rfl, hb⟩
      have b9 := hbw.trans (hb.mono sw)
      clear hb
      go_wp2
      go_ret
      exact ⟨rfl, b9⟩
end Go.Proofs.Ytkohmoekomegnaa
