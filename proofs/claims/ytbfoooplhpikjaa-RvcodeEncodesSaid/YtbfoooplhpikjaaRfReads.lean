/- The reference's reads. -/
import Derived.Test.YtbfoooplhpikjaaRfForms
import Derived.Test.YtbfoooplhpikjaaRvRead
namespace Go.Proofs.Ytbfoooplhpikjaa
open Go.RowKit
set_option linter.unusedVariables false
namespace rf
theorem told_R (k : Nat) (v : Int) (h : 0 ≤ v ∧ v < 4294967296) : toldV 82 v = 0 := rfl
theorem told_I (v : Int) (h : 0 ≤ v ∧ v < 4294967296) : toldV 73 v = (if (v / 1048576 % 4096) / 2048 = 1 then v / 1048576 % 4096 - 4096 else v / 1048576 % 4096) := by
  simp only [toldV, sg]
  obtain ⟨x0, hx0⟩ : ∃ x, v / 1048576 % 4096 = x := ⟨_, rfl⟩
  have b0 : 0 ≤ x0 ∧ x0 < 4096 := by rw [← hx0]; exact ⟨Int.emod_nonneg _ (by omega), Int.emod_lt_of_pos _ (by omega)⟩
  rw [hx0]
  clear hx0
  split <;> split <;> omega
theorem told_X (v : Int) (h : 0 ≤ v ∧ v < 4294967296) : toldV 88 v = v / 1048576 % 64 := by
  simp only [toldV]
theorem told_Y (v : Int) (h : 0 ≤ v ∧ v < 4294967296) : toldV 89 v = v / 1048576 % 32 := by
  simp only [toldV]
theorem told_S (v : Int) (h : 0 ≤ v ∧ v < 4294967296) : toldV 83 v = (if (v / 128 % 32 + v / 33554432 % 128 * 32) / 2048 = 1 then v / 128 % 32 + v / 33554432 % 128 * 32 - 4096 else v / 128 % 32 + v / 33554432 % 128 * 32) := by
  simp only [toldV, sg]
  obtain ⟨x0, hx0⟩ : ∃ x, v / 128 % 32 = x := ⟨_, rfl⟩
  have b0 : 0 ≤ x0 ∧ x0 < 32 := by rw [← hx0]; exact ⟨Int.emod_nonneg _ (by omega), Int.emod_lt_of_pos _ (by omega)⟩
  rw [hx0]
  clear hx0
  obtain ⟨x1, hx1⟩ : ∃ x, v / 33554432 % 128 = x := ⟨_, rfl⟩
  have b1 : 0 ≤ x1 ∧ x1 < 128 := by rw [← hx1]; exact ⟨Int.emod_nonneg _ (by omega), Int.emod_lt_of_pos _ (by omega)⟩
  rw [hx1]
  clear hx1
  split <;> split <;> omega
theorem told_B (v : Int) (h : 0 ≤ v ∧ v < 4294967296) : toldV 66 v = (if (v / 128 % 2 * 2048 + v / 256 % 16 * 2 + v / 33554432 % 64 * 32 + v / 2147483648 % 2 * 4096) / 4096 = 1 then v / 128 % 2 * 2048 + v / 256 % 16 * 2 + v / 33554432 % 64 * 32 + v / 2147483648 % 2 * 4096 - 8192 else v / 128 % 2 * 2048 + v / 256 % 16 * 2 + v / 33554432 % 64 * 32 + v / 2147483648 % 2 * 4096) := by
  simp only [toldV, sg]
  obtain ⟨x0, hx0⟩ : ∃ x, v / 128 % 2 = x := ⟨_, rfl⟩
  have b0 : 0 ≤ x0 ∧ x0 < 2 := by rw [← hx0]; exact ⟨Int.emod_nonneg _ (by omega), Int.emod_lt_of_pos _ (by omega)⟩
  rw [hx0]
  clear hx0
  obtain ⟨x1, hx1⟩ : ∃ x, v / 256 % 16 = x := ⟨_, rfl⟩
  have b1 : 0 ≤ x1 ∧ x1 < 16 := by rw [← hx1]; exact ⟨Int.emod_nonneg _ (by omega), Int.emod_lt_of_pos _ (by omega)⟩
  rw [hx1]
  clear hx1
  obtain ⟨x2, hx2⟩ : ∃ x, v / 33554432 % 64 = x := ⟨_, rfl⟩
  have b2 : 0 ≤ x2 ∧ x2 < 64 := by rw [← hx2]; exact ⟨Int.emod_nonneg _ (by omega), Int.emod_lt_of_pos _ (by omega)⟩
  rw [hx2]
  clear hx2
  obtain ⟨x3, hx3⟩ : ∃ x, v / 2147483648 % 2 = x := ⟨_, rfl⟩
  have b3 : 0 ≤ x3 ∧ x3 < 2 := by rw [← hx3]; exact ⟨Int.emod_nonneg _ (by omega), Int.emod_lt_of_pos _ (by omega)⟩
  rw [hx3]
  clear hx3
  split <;> split <;> omega
theorem told_U (v : Int) (h : 0 ≤ v ∧ v < 4294967296) : toldV 85 v = (if (v / 4096 % 1048576) / 524288 = 1 then v / 4096 % 1048576 - 1048576 else v / 4096 % 1048576) := by
  simp only [toldV, sg]
  obtain ⟨x0, hx0⟩ : ∃ x, v / 4096 % 1048576 = x := ⟨_, rfl⟩
  have b0 : 0 ≤ x0 ∧ x0 < 1048576 := by rw [← hx0]; exact ⟨Int.emod_nonneg _ (by omega), Int.emod_lt_of_pos _ (by omega)⟩
  rw [hx0]
  clear hx0
  split <;> split <;> omega
theorem told_J (v : Int) (h : 0 ≤ v ∧ v < 4294967296) : toldV 74 v = (if (v / 4096 % 256 * 4096 + v / 1048576 % 2 * 2048 + v / 2097152 % 1024 * 2 + v / 2147483648 % 2 * 1048576) / 1048576 = 1 then v / 4096 % 256 * 4096 + v / 1048576 % 2 * 2048 + v / 2097152 % 1024 * 2 + v / 2147483648 % 2 * 1048576 - 2097152 else v / 4096 % 256 * 4096 + v / 1048576 % 2 * 2048 + v / 2097152 % 1024 * 2 + v / 2147483648 % 2 * 1048576) := by
  simp only [toldV, sg]
  obtain ⟨x0, hx0⟩ : ∃ x, v / 4096 % 256 = x := ⟨_, rfl⟩
  have b0 : 0 ≤ x0 ∧ x0 < 256 := by rw [← hx0]; exact ⟨Int.emod_nonneg _ (by omega), Int.emod_lt_of_pos _ (by omega)⟩
  rw [hx0]
  clear hx0
  obtain ⟨x1, hx1⟩ : ∃ x, v / 1048576 % 2 = x := ⟨_, rfl⟩
  have b1 : 0 ≤ x1 ∧ x1 < 2 := by rw [← hx1]; exact ⟨Int.emod_nonneg _ (by omega), Int.emod_lt_of_pos _ (by omega)⟩
  rw [hx1]
  clear hx1
  obtain ⟨x2, hx2⟩ : ∃ x, v / 2097152 % 1024 = x := ⟨_, rfl⟩
  have b2 : 0 ≤ x2 ∧ x2 < 1024 := by rw [← hx2]; exact ⟨Int.emod_nonneg _ (by omega), Int.emod_lt_of_pos _ (by omega)⟩
  rw [hx2]
  clear hx2
  obtain ⟨x3, hx3⟩ : ∃ x, v / 2147483648 % 2 = x := ⟨_, rfl⟩
  have b3 : 0 ≤ x3 ∧ x3 < 2 := by rw [← hx3]; exact ⟨Int.emod_nonneg _ (by omega), Int.emod_lt_of_pos _ (by omega)⟩
  rw [hx3]
  clear hx3
  split <;> split <;> omega
theorem told_E (k : Nat) (v : Int) (h : 0 ≤ v ∧ v < 4294967296) : toldV 69 v = 0 := rfl
end rf
set_option maxRecDepth 100000 in
set_option maxHeartbeats 1600000 in
theorem rreads_R (k : Nat) (h1 : k < 64) (h2 : 1 ≤ k) (hf : (rv.row k).form = ⟨#[82]⟩) (v : Int) (hv : 0 ≤ v ∧ v < 4294967296) (w : World) :
    Calls Try.prog 28 #[.int .i64 k, .int .u32 v] w fun e w' => e = .returned (.agg (readRow k (rv.numsK k v))) ∧ Below w.heap.size w w' := by
  have hs : rv.sh k = rv.shR := by unfold rv.sh; rw [hf]; rfl
  have hn : ∀ q, rv.numsK k v q = rv.nums v rv.shR.low rv.shR.fs q := fun q => by unfold rv.numsK; rw [hs]
  obtain ⟨m1, m2, m3, m4⟩ := rv.nums_R v hv.1 hv.2
  have n1 := (hn 1).trans m1
  have n2 := (hn 2).trans m2
  have n3 := (hn 3).trans m3
  have n4 := (hn 4).trans m4
  clear m1 m2 m3 m4
  have HT := bl.hid (fun w => rtold_R v hv w)
  obtain ⟨im, him⟩ : ∃ z, rf.toldV 82 v = z := ⟨_, rfl⟩
  have h4 : rv.numsK k v 4 = im := by rw [← him, n4]; rfl
  rw [him] at HT
  have HFrd := bl.hid (fun w => rfield_at v 7 5 128 32 (by decide) (by decide) (by omega) (by omega) hv w)
  obtain ⟨xrd, hxrd⟩ : ∃ z, v / 128 % 32 = z := ⟨_, rfl⟩
  rw [hxrd] at HFrd
  rw [hxrd] at n1
  clear hxrd
  have HFrs1 := bl.hid (fun w => rfield_at v 15 5 32768 32 (by decide) (by decide) (by omega) (by omega) hv w)
  obtain ⟨xrs1, hxrs1⟩ : ∃ z, v / 32768 % 32 = z := ⟨_, rfl⟩
  rw [hxrs1] at HFrs1
  rw [hxrs1] at n2
  clear hxrs1
  have HFrs2 := bl.hid (fun w => rfield_at v 20 5 1048576 32 (by decide) (by decide) (by omega) (by omega) hv w)
  obtain ⟨xrs2, hxrs2⟩ : ∃ z, v / 1048576 % 32 = z := ⟨_, rfl⟩
  rw [hxrs2] at HFrs2
  rw [hxrs2] at n3
  clear hxrs2
  have HN := bl.hid (And.intro n1 (And.intro n2 (And.intro n3 h4)))
  have HA := fun w => rrow_ok k w h2 h1
  unfold rv.cells at HA
  rw [hf] at HA
  obtain ⟨ra, ea⟩ : ∃ z, (rv.row k).a = z := ⟨_, rfl⟩
  obtain ⟨rb, eb⟩ : ∃ z, (rv.row k).b = z := ⟨_, rfl⟩
  obtain ⟨rc, ec⟩ : ∃ z, (rv.row k).c = z := ⟨_, rfl⟩
  obtain ⟨nm, en⟩ : ∃ z, (rv.row k).name = z := ⟨_, rfl⟩
  rw [ea, eb, ec, en] at HA
  have HRow := bl.hid HA
  clear HA ea eb ec en hf hs hn n1 n2 n3 n4 h4 him hv
  go_enter Try.func28, Try.ntmps28
  go_wp2_with fail
  refine (HRow.out _).mono ?_
  rintro e w1 ⟨rfl, hb⟩
  obtain ⟨r0, hb1, hs1⟩ := one_box hb
  have HR0 := bl.hid r0
  have HB1 := bl.hid hb1
  have k0 : w.heap.size < w1.heap.size := by omega
  clear hb r0 hb1
  go_wp2_with fail
  refine (HT.out _).mono ?_
  rintro e w' ⟨rfl, rfl⟩
  go_wp2_with fail
  refine (HFrd.out _).mono ?_
  rintro e w' ⟨rfl, rfl⟩
  go_wp2_with fail
  refine (HFrs1.out _).mono ?_
  rintro e w' ⟨rfl, rfl⟩
  go_wp2_with fail
  refine (HFrs2.out _).mono ?_
  rintro e w' ⟨rfl, rfl⟩
  have HW : Hid (∀ o1 o2 : Obj, ((w1.alloc o1).alloc o2).heap[w.heap.size]? = w1.heap[w.heap.size]?) := bl.hid fun o1 o2 => by rw [heap_alloc_old _ _ (by rw [World.size_alloc]; omega), heap_alloc_old _ _ k0]
  have HB2 : Hid (∀ o1 o2 : Obj, Below w.heap.size w ((w1.alloc o1).alloc o2)) := bl.hid fun o1 o2 => kt.below_more' (kt.below_more' HB1.out o1) o2
  go_wp2_with (refine wpList_store_row rfl 24 _ _ rfl w.heap.size #[.int .i64 k, .int .i64 xrd, .int .i64 xrs1, .int .i64 xrs2, .int .i64 im] rfl rfl 24 _ ((HW.out _ _).trans HR0.out) rv_info rfl (rv_one _ _ _ _ _) ?_)
  refine bodyPost_ret (results_cell_row rfl _ _ w.heap.size 24 _ (0, 0) _ rfl (setRow_heap _ _ _ _ _ _ ((HW.out _ _).trans HR0.out)) Try.underlying24 rfl rv_info) rfl ?_
  refine ⟨?_, (HB2.out _ _).trans ⟨rfl, rfl, rfl, by simp, fun k hk => setRow_other _ _ _ _ (by omega)⟩⟩
  unfold readRow
  rw [HN.out.1, HN.out.2.1, HN.out.2.2.1, HN.out.2.2.2]
set_option maxRecDepth 100000 in
set_option maxHeartbeats 1600000 in
theorem rreads_I (k : Nat) (h1 : k < 64) (h2 : 1 ≤ k) (hf : (rv.row k).form = ⟨#[73]⟩) (v : Int) (hv : 0 ≤ v ∧ v < 4294967296) (w : World) :
    Calls Try.prog 28 #[.int .i64 k, .int .u32 v] w fun e w' => e = .returned (.agg (readRow k (rv.numsK k v))) ∧ Below w.heap.size w w' := by
  have hs : rv.sh k = rv.shI := by unfold rv.sh; rw [hf]; rfl
  have hn : ∀ q, rv.numsK k v q = rv.nums v rv.shI.low rv.shI.fs q := fun q => by unfold rv.numsK; rw [hs]
  obtain ⟨m1, m2, m3, m4⟩ := rv.nums_I v hv.1 hv.2
  have n1 := (hn 1).trans m1
  have n2 := (hn 2).trans m2
  have n3 := (hn 3).trans m3
  have n4 := (hn 4).trans m4
  clear m1 m2 m3 m4
  have HT := bl.hid (fun w => rtold_I v hv w)
  obtain ⟨im, him⟩ : ∃ z, rf.toldV 73 v = z := ⟨_, rfl⟩
  have h4 : rv.numsK k v 4 = im := by rw [← him, n4]; exact (rf.told_I v hv).symm
  rw [him] at HT
  have HFrd := bl.hid (fun w => rfield_at v 7 5 128 32 (by decide) (by decide) (by omega) (by omega) hv w)
  obtain ⟨xrd, hxrd⟩ : ∃ z, v / 128 % 32 = z := ⟨_, rfl⟩
  rw [hxrd] at HFrd
  rw [hxrd] at n1
  clear hxrd
  have HFrs1 := bl.hid (fun w => rfield_at v 15 5 32768 32 (by decide) (by decide) (by omega) (by omega) hv w)
  obtain ⟨xrs1, hxrs1⟩ : ∃ z, v / 32768 % 32 = z := ⟨_, rfl⟩
  rw [hxrs1] at HFrs1
  rw [hxrs1] at n2
  clear hxrs1
  have HN := bl.hid (And.intro n1 (And.intro n2 (And.intro n3 h4)))
  have HA := fun w => rrow_ok k w h2 h1
  unfold rv.cells at HA
  rw [hf] at HA
  obtain ⟨ra, ea⟩ : ∃ z, (rv.row k).a = z := ⟨_, rfl⟩
  obtain ⟨rb, eb⟩ : ∃ z, (rv.row k).b = z := ⟨_, rfl⟩
  obtain ⟨rc, ec⟩ : ∃ z, (rv.row k).c = z := ⟨_, rfl⟩
  obtain ⟨nm, en⟩ : ∃ z, (rv.row k).name = z := ⟨_, rfl⟩
  rw [ea, eb, ec, en] at HA
  have HRow := bl.hid HA
  clear HA ea eb ec en hf hs hn n1 n2 n3 n4 h4 him hv
  go_enter Try.func28, Try.ntmps28
  go_wp2_with fail
  refine (HRow.out _).mono ?_
  rintro e w1 ⟨rfl, hb⟩
  obtain ⟨r0, hb1, hs1⟩ := one_box hb
  have HR0 := bl.hid r0
  have HB1 := bl.hid hb1
  have k0 : w.heap.size < w1.heap.size := by omega
  clear hb r0 hb1
  go_wp2_with fail
  refine (HT.out _).mono ?_
  rintro e w' ⟨rfl, rfl⟩
  go_wp2_with fail
  refine (HFrd.out _).mono ?_
  rintro e w' ⟨rfl, rfl⟩
  go_wp2_with fail
  refine (HFrs1.out _).mono ?_
  rintro e w' ⟨rfl, rfl⟩
  have HW : Hid (∀ o1 o2 : Obj, ((w1.alloc o1).alloc o2).heap[w.heap.size]? = w1.heap[w.heap.size]?) := bl.hid fun o1 o2 => by rw [heap_alloc_old _ _ (by rw [World.size_alloc]; omega), heap_alloc_old _ _ k0]
  have HB2 : Hid (∀ o1 o2 : Obj, Below w.heap.size w ((w1.alloc o1).alloc o2)) := bl.hid fun o1 o2 => kt.below_more' (kt.below_more' HB1.out o1) o2
  go_wp2_with (refine wpList_store_row rfl 24 _ _ rfl w.heap.size #[.int .i64 k, .int .i64 xrd, .int .i64 xrs1, .int .i64 0, .int .i64 im] rfl rfl 24 _ ((HW.out _ _).trans HR0.out) rv_info rfl (rv_one _ _ _ _ _) ?_)
  refine bodyPost_ret (results_cell_row rfl _ _ w.heap.size 24 _ (0, 0) _ rfl (setRow_heap _ _ _ _ _ _ ((HW.out _ _).trans HR0.out)) Try.underlying24 rfl rv_info) rfl ?_
  refine ⟨?_, (HB2.out _ _).trans ⟨rfl, rfl, rfl, by simp, fun k hk => setRow_other _ _ _ _ (by omega)⟩⟩
  unfold readRow
  rw [HN.out.1, HN.out.2.1, HN.out.2.2.1, HN.out.2.2.2]
set_option maxRecDepth 100000 in
set_option maxHeartbeats 1600000 in
theorem rreads_X (k : Nat) (h1 : k < 64) (h2 : 1 ≤ k) (hf : (rv.row k).form = ⟨#[88]⟩) (v : Int) (hv : 0 ≤ v ∧ v < 4294967296) (w : World) :
    Calls Try.prog 28 #[.int .i64 k, .int .u32 v] w fun e w' => e = .returned (.agg (readRow k (rv.numsK k v))) ∧ Below w.heap.size w w' := by
  have hs : rv.sh k = rv.shX := by unfold rv.sh; rw [hf]; rfl
  have hn : ∀ q, rv.numsK k v q = rv.nums v rv.shX.low rv.shX.fs q := fun q => by unfold rv.numsK; rw [hs]
  obtain ⟨m1, m2, m3, m4⟩ := rv.nums_X v hv.1 hv.2
  have n1 := (hn 1).trans m1
  have n2 := (hn 2).trans m2
  have n3 := (hn 3).trans m3
  have n4 := (hn 4).trans m4
  clear m1 m2 m3 m4
  have HT := bl.hid (fun w => rtold_X v hv w)
  obtain ⟨im, him⟩ : ∃ z, rf.toldV 88 v = z := ⟨_, rfl⟩
  have h4 : rv.numsK k v 4 = im := by rw [← him, n4]; exact (rf.told_X v hv).symm
  rw [him] at HT
  have HFrd := bl.hid (fun w => rfield_at v 7 5 128 32 (by decide) (by decide) (by omega) (by omega) hv w)
  obtain ⟨xrd, hxrd⟩ : ∃ z, v / 128 % 32 = z := ⟨_, rfl⟩
  rw [hxrd] at HFrd
  rw [hxrd] at n1
  clear hxrd
  have HFrs1 := bl.hid (fun w => rfield_at v 15 5 32768 32 (by decide) (by decide) (by omega) (by omega) hv w)
  obtain ⟨xrs1, hxrs1⟩ : ∃ z, v / 32768 % 32 = z := ⟨_, rfl⟩
  rw [hxrs1] at HFrs1
  rw [hxrs1] at n2
  clear hxrs1
  have HN := bl.hid (And.intro n1 (And.intro n2 (And.intro n3 h4)))
  have HA := fun w => rrow_ok k w h2 h1
  unfold rv.cells at HA
  rw [hf] at HA
  obtain ⟨ra, ea⟩ : ∃ z, (rv.row k).a = z := ⟨_, rfl⟩
  obtain ⟨rb, eb⟩ : ∃ z, (rv.row k).b = z := ⟨_, rfl⟩
  obtain ⟨rc, ec⟩ : ∃ z, (rv.row k).c = z := ⟨_, rfl⟩
  obtain ⟨nm, en⟩ : ∃ z, (rv.row k).name = z := ⟨_, rfl⟩
  rw [ea, eb, ec, en] at HA
  have HRow := bl.hid HA
  clear HA ea eb ec en hf hs hn n1 n2 n3 n4 h4 him hv
  go_enter Try.func28, Try.ntmps28
  go_wp2_with fail
  refine (HRow.out _).mono ?_
  rintro e w1 ⟨rfl, hb⟩
  obtain ⟨r0, hb1, hs1⟩ := one_box hb
  have HR0 := bl.hid r0
  have HB1 := bl.hid hb1
  have k0 : w.heap.size < w1.heap.size := by omega
  clear hb r0 hb1
  go_wp2_with fail
  refine (HT.out _).mono ?_
  rintro e w' ⟨rfl, rfl⟩
  go_wp2_with fail
  refine (HFrd.out _).mono ?_
  rintro e w' ⟨rfl, rfl⟩
  go_wp2_with fail
  refine (HFrs1.out _).mono ?_
  rintro e w' ⟨rfl, rfl⟩
  have HW : Hid (∀ o1 o2 : Obj, ((w1.alloc o1).alloc o2).heap[w.heap.size]? = w1.heap[w.heap.size]?) := bl.hid fun o1 o2 => by rw [heap_alloc_old _ _ (by rw [World.size_alloc]; omega), heap_alloc_old _ _ k0]
  have HB2 : Hid (∀ o1 o2 : Obj, Below w.heap.size w ((w1.alloc o1).alloc o2)) := bl.hid fun o1 o2 => kt.below_more' (kt.below_more' HB1.out o1) o2
  go_wp2_with (refine wpList_store_row rfl 24 _ _ rfl w.heap.size #[.int .i64 k, .int .i64 xrd, .int .i64 xrs1, .int .i64 0, .int .i64 im] rfl rfl 24 _ ((HW.out _ _).trans HR0.out) rv_info rfl (rv_one _ _ _ _ _) ?_)
  refine bodyPost_ret (results_cell_row rfl _ _ w.heap.size 24 _ (0, 0) _ rfl (setRow_heap _ _ _ _ _ _ ((HW.out _ _).trans HR0.out)) Try.underlying24 rfl rv_info) rfl ?_
  refine ⟨?_, (HB2.out _ _).trans ⟨rfl, rfl, rfl, by simp, fun k hk => setRow_other _ _ _ _ (by omega)⟩⟩
  unfold readRow
  rw [HN.out.1, HN.out.2.1, HN.out.2.2.1, HN.out.2.2.2]
set_option maxRecDepth 100000 in
set_option maxHeartbeats 1600000 in
theorem rreads_Y (k : Nat) (h1 : k < 64) (h2 : 1 ≤ k) (hf : (rv.row k).form = ⟨#[89]⟩) (v : Int) (hv : 0 ≤ v ∧ v < 4294967296) (w : World) :
    Calls Try.prog 28 #[.int .i64 k, .int .u32 v] w fun e w' => e = .returned (.agg (readRow k (rv.numsK k v))) ∧ Below w.heap.size w w' := by
  have hs : rv.sh k = rv.shY := by unfold rv.sh; rw [hf]; rfl
  have hn : ∀ q, rv.numsK k v q = rv.nums v rv.shY.low rv.shY.fs q := fun q => by unfold rv.numsK; rw [hs]
  obtain ⟨m1, m2, m3, m4⟩ := rv.nums_Y v hv.1 hv.2
  have n1 := (hn 1).trans m1
  have n2 := (hn 2).trans m2
  have n3 := (hn 3).trans m3
  have n4 := (hn 4).trans m4
  clear m1 m2 m3 m4
  have HT := bl.hid (fun w => rtold_Y v hv w)
  obtain ⟨im, him⟩ : ∃ z, rf.toldV 89 v = z := ⟨_, rfl⟩
  have h4 : rv.numsK k v 4 = im := by rw [← him, n4]; exact (rf.told_Y v hv).symm
  rw [him] at HT
  have HFrd := bl.hid (fun w => rfield_at v 7 5 128 32 (by decide) (by decide) (by omega) (by omega) hv w)
  obtain ⟨xrd, hxrd⟩ : ∃ z, v / 128 % 32 = z := ⟨_, rfl⟩
  rw [hxrd] at HFrd
  rw [hxrd] at n1
  clear hxrd
  have HFrs1 := bl.hid (fun w => rfield_at v 15 5 32768 32 (by decide) (by decide) (by omega) (by omega) hv w)
  obtain ⟨xrs1, hxrs1⟩ : ∃ z, v / 32768 % 32 = z := ⟨_, rfl⟩
  rw [hxrs1] at HFrs1
  rw [hxrs1] at n2
  clear hxrs1
  have HN := bl.hid (And.intro n1 (And.intro n2 (And.intro n3 h4)))
  have HA := fun w => rrow_ok k w h2 h1
  unfold rv.cells at HA
  rw [hf] at HA
  obtain ⟨ra, ea⟩ : ∃ z, (rv.row k).a = z := ⟨_, rfl⟩
  obtain ⟨rb, eb⟩ : ∃ z, (rv.row k).b = z := ⟨_, rfl⟩
  obtain ⟨rc, ec⟩ : ∃ z, (rv.row k).c = z := ⟨_, rfl⟩
  obtain ⟨nm, en⟩ : ∃ z, (rv.row k).name = z := ⟨_, rfl⟩
  rw [ea, eb, ec, en] at HA
  have HRow := bl.hid HA
  clear HA ea eb ec en hf hs hn n1 n2 n3 n4 h4 him hv
  go_enter Try.func28, Try.ntmps28
  go_wp2_with fail
  refine (HRow.out _).mono ?_
  rintro e w1 ⟨rfl, hb⟩
  obtain ⟨r0, hb1, hs1⟩ := one_box hb
  have HR0 := bl.hid r0
  have HB1 := bl.hid hb1
  have k0 : w.heap.size < w1.heap.size := by omega
  clear hb r0 hb1
  go_wp2_with fail
  refine (HT.out _).mono ?_
  rintro e w' ⟨rfl, rfl⟩
  go_wp2_with fail
  refine (HFrd.out _).mono ?_
  rintro e w' ⟨rfl, rfl⟩
  go_wp2_with fail
  refine (HFrs1.out _).mono ?_
  rintro e w' ⟨rfl, rfl⟩
  have HW : Hid (∀ o1 o2 : Obj, ((w1.alloc o1).alloc o2).heap[w.heap.size]? = w1.heap[w.heap.size]?) := bl.hid fun o1 o2 => by rw [heap_alloc_old _ _ (by rw [World.size_alloc]; omega), heap_alloc_old _ _ k0]
  have HB2 : Hid (∀ o1 o2 : Obj, Below w.heap.size w ((w1.alloc o1).alloc o2)) := bl.hid fun o1 o2 => kt.below_more' (kt.below_more' HB1.out o1) o2
  go_wp2_with (refine wpList_store_row rfl 24 _ _ rfl w.heap.size #[.int .i64 k, .int .i64 xrd, .int .i64 xrs1, .int .i64 0, .int .i64 im] rfl rfl 24 _ ((HW.out _ _).trans HR0.out) rv_info rfl (rv_one _ _ _ _ _) ?_)
  refine bodyPost_ret (results_cell_row rfl _ _ w.heap.size 24 _ (0, 0) _ rfl (setRow_heap _ _ _ _ _ _ ((HW.out _ _).trans HR0.out)) Try.underlying24 rfl rv_info) rfl ?_
  refine ⟨?_, (HB2.out _ _).trans ⟨rfl, rfl, rfl, by simp, fun k hk => setRow_other _ _ _ _ (by omega)⟩⟩
  unfold readRow
  rw [HN.out.1, HN.out.2.1, HN.out.2.2.1, HN.out.2.2.2]
set_option maxRecDepth 100000 in
set_option maxHeartbeats 1600000 in
theorem rreads_S (k : Nat) (h1 : k < 64) (h2 : 1 ≤ k) (hf : (rv.row k).form = ⟨#[83]⟩) (v : Int) (hv : 0 ≤ v ∧ v < 4294967296) (w : World) :
    Calls Try.prog 28 #[.int .i64 k, .int .u32 v] w fun e w' => e = .returned (.agg (readRow k (rv.numsK k v))) ∧ Below w.heap.size w w' := by
  have hs : rv.sh k = rv.shS := by unfold rv.sh; rw [hf]; rfl
  have hn : ∀ q, rv.numsK k v q = rv.nums v rv.shS.low rv.shS.fs q := fun q => by unfold rv.numsK; rw [hs]
  obtain ⟨m1, m2, m3, m4⟩ := rv.nums_S v hv.1 hv.2
  have n1 := (hn 1).trans m1
  have n2 := (hn 2).trans m2
  have n3 := (hn 3).trans m3
  have n4 := (hn 4).trans m4
  clear m1 m2 m3 m4
  have HT := bl.hid (fun w => rtold_S v hv w)
  obtain ⟨im, him⟩ : ∃ z, rf.toldV 83 v = z := ⟨_, rfl⟩
  have h4 : rv.numsK k v 4 = im := by rw [← him, n4]; exact (rf.told_S v hv).symm
  rw [him] at HT
  have HFrs1 := bl.hid (fun w => rfield_at v 15 5 32768 32 (by decide) (by decide) (by omega) (by omega) hv w)
  obtain ⟨xrs1, hxrs1⟩ : ∃ z, v / 32768 % 32 = z := ⟨_, rfl⟩
  rw [hxrs1] at HFrs1
  rw [hxrs1] at n2
  clear hxrs1
  have HFrs2 := bl.hid (fun w => rfield_at v 20 5 1048576 32 (by decide) (by decide) (by omega) (by omega) hv w)
  obtain ⟨xrs2, hxrs2⟩ : ∃ z, v / 1048576 % 32 = z := ⟨_, rfl⟩
  rw [hxrs2] at HFrs2
  rw [hxrs2] at n3
  clear hxrs2
  have HN := bl.hid (And.intro n1 (And.intro n2 (And.intro n3 h4)))
  have HA := fun w => rrow_ok k w h2 h1
  unfold rv.cells at HA
  rw [hf] at HA
  obtain ⟨ra, ea⟩ : ∃ z, (rv.row k).a = z := ⟨_, rfl⟩
  obtain ⟨rb, eb⟩ : ∃ z, (rv.row k).b = z := ⟨_, rfl⟩
  obtain ⟨rc, ec⟩ : ∃ z, (rv.row k).c = z := ⟨_, rfl⟩
  obtain ⟨nm, en⟩ : ∃ z, (rv.row k).name = z := ⟨_, rfl⟩
  rw [ea, eb, ec, en] at HA
  have HRow := bl.hid HA
  clear HA ea eb ec en hf hs hn n1 n2 n3 n4 h4 him hv
  go_enter Try.func28, Try.ntmps28
  go_wp2_with fail
  refine (HRow.out _).mono ?_
  rintro e w1 ⟨rfl, hb⟩
  obtain ⟨r0, hb1, hs1⟩ := one_box hb
  have HR0 := bl.hid r0
  have HB1 := bl.hid hb1
  have k0 : w.heap.size < w1.heap.size := by omega
  clear hb r0 hb1
  go_wp2_with fail
  refine (HT.out _).mono ?_
  rintro e w' ⟨rfl, rfl⟩
  go_wp2_with fail
  refine (HFrs1.out _).mono ?_
  rintro e w' ⟨rfl, rfl⟩
  go_wp2_with fail
  refine (HFrs2.out _).mono ?_
  rintro e w' ⟨rfl, rfl⟩
  have HW : Hid (∀ o1 o2 : Obj, ((w1.alloc o1).alloc o2).heap[w.heap.size]? = w1.heap[w.heap.size]?) := bl.hid fun o1 o2 => by rw [heap_alloc_old _ _ (by rw [World.size_alloc]; omega), heap_alloc_old _ _ k0]
  have HB2 : Hid (∀ o1 o2 : Obj, Below w.heap.size w ((w1.alloc o1).alloc o2)) := bl.hid fun o1 o2 => kt.below_more' (kt.below_more' HB1.out o1) o2
  go_wp2_with (refine wpList_store_row rfl 24 _ _ rfl w.heap.size #[.int .i64 k, .int .i64 0, .int .i64 xrs1, .int .i64 xrs2, .int .i64 im] rfl rfl 24 _ ((HW.out _ _).trans HR0.out) rv_info rfl (rv_one _ _ _ _ _) ?_)
  refine bodyPost_ret (results_cell_row rfl _ _ w.heap.size 24 _ (0, 0) _ rfl (setRow_heap _ _ _ _ _ _ ((HW.out _ _).trans HR0.out)) Try.underlying24 rfl rv_info) rfl ?_
  refine ⟨?_, (HB2.out _ _).trans ⟨rfl, rfl, rfl, by simp, fun k hk => setRow_other _ _ _ _ (by omega)⟩⟩
  unfold readRow
  rw [HN.out.1, HN.out.2.1, HN.out.2.2.1, HN.out.2.2.2]
set_option maxRecDepth 100000 in
set_option maxHeartbeats 1600000 in
theorem rreads_B (k : Nat) (h1 : k < 64) (h2 : 1 ≤ k) (hf : (rv.row k).form = ⟨#[66]⟩) (v : Int) (hv : 0 ≤ v ∧ v < 4294967296) (w : World) :
    Calls Try.prog 28 #[.int .i64 k, .int .u32 v] w fun e w' => e = .returned (.agg (readRow k (rv.numsK k v))) ∧ Below w.heap.size w w' := by
  have hs : rv.sh k = rv.shB := by unfold rv.sh; rw [hf]; rfl
  have hn : ∀ q, rv.numsK k v q = rv.nums v rv.shB.low rv.shB.fs q := fun q => by unfold rv.numsK; rw [hs]
  obtain ⟨m1, m2, m3, m4⟩ := rv.nums_B v hv.1 hv.2
  have n1 := (hn 1).trans m1
  have n2 := (hn 2).trans m2
  have n3 := (hn 3).trans m3
  have n4 := (hn 4).trans m4
  clear m1 m2 m3 m4
  have HT := bl.hid (fun w => rtold_B v hv w)
  obtain ⟨im, him⟩ : ∃ z, rf.toldV 66 v = z := ⟨_, rfl⟩
  have h4 : rv.numsK k v 4 = im := by rw [← him, n4]; exact (rf.told_B v hv).symm
  rw [him] at HT
  have HFrs1 := bl.hid (fun w => rfield_at v 15 5 32768 32 (by decide) (by decide) (by omega) (by omega) hv w)
  obtain ⟨xrs1, hxrs1⟩ : ∃ z, v / 32768 % 32 = z := ⟨_, rfl⟩
  rw [hxrs1] at HFrs1
  rw [hxrs1] at n2
  clear hxrs1
  have HFrs2 := bl.hid (fun w => rfield_at v 20 5 1048576 32 (by decide) (by decide) (by omega) (by omega) hv w)
  obtain ⟨xrs2, hxrs2⟩ : ∃ z, v / 1048576 % 32 = z := ⟨_, rfl⟩
  rw [hxrs2] at HFrs2
  rw [hxrs2] at n3
  clear hxrs2
  have HN := bl.hid (And.intro n1 (And.intro n2 (And.intro n3 h4)))
  have HA := fun w => rrow_ok k w h2 h1
  unfold rv.cells at HA
  rw [hf] at HA
  obtain ⟨ra, ea⟩ : ∃ z, (rv.row k).a = z := ⟨_, rfl⟩
  obtain ⟨rb, eb⟩ : ∃ z, (rv.row k).b = z := ⟨_, rfl⟩
  obtain ⟨rc, ec⟩ : ∃ z, (rv.row k).c = z := ⟨_, rfl⟩
  obtain ⟨nm, en⟩ : ∃ z, (rv.row k).name = z := ⟨_, rfl⟩
  rw [ea, eb, ec, en] at HA
  have HRow := bl.hid HA
  clear HA ea eb ec en hf hs hn n1 n2 n3 n4 h4 him hv
  go_enter Try.func28, Try.ntmps28
  go_wp2_with fail
  refine (HRow.out _).mono ?_
  rintro e w1 ⟨rfl, hb⟩
  obtain ⟨r0, hb1, hs1⟩ := one_box hb
  have HR0 := bl.hid r0
  have HB1 := bl.hid hb1
  have k0 : w.heap.size < w1.heap.size := by omega
  clear hb r0 hb1
  go_wp2_with fail
  refine (HT.out _).mono ?_
  rintro e w' ⟨rfl, rfl⟩
  go_wp2_with fail
  refine (HFrs1.out _).mono ?_
  rintro e w' ⟨rfl, rfl⟩
  go_wp2_with fail
  refine (HFrs2.out _).mono ?_
  rintro e w' ⟨rfl, rfl⟩
  have HW : Hid (∀ o1 o2 : Obj, ((w1.alloc o1).alloc o2).heap[w.heap.size]? = w1.heap[w.heap.size]?) := bl.hid fun o1 o2 => by rw [heap_alloc_old _ _ (by rw [World.size_alloc]; omega), heap_alloc_old _ _ k0]
  have HB2 : Hid (∀ o1 o2 : Obj, Below w.heap.size w ((w1.alloc o1).alloc o2)) := bl.hid fun o1 o2 => kt.below_more' (kt.below_more' HB1.out o1) o2
  go_wp2_with (refine wpList_store_row rfl 24 _ _ rfl w.heap.size #[.int .i64 k, .int .i64 0, .int .i64 xrs1, .int .i64 xrs2, .int .i64 im] rfl rfl 24 _ ((HW.out _ _).trans HR0.out) rv_info rfl (rv_one _ _ _ _ _) ?_)
  refine bodyPost_ret (results_cell_row rfl _ _ w.heap.size 24 _ (0, 0) _ rfl (setRow_heap _ _ _ _ _ _ ((HW.out _ _).trans HR0.out)) Try.underlying24 rfl rv_info) rfl ?_
  refine ⟨?_, (HB2.out _ _).trans ⟨rfl, rfl, rfl, by simp, fun k hk => setRow_other _ _ _ _ (by omega)⟩⟩
  unfold readRow
  rw [HN.out.1, HN.out.2.1, HN.out.2.2.1, HN.out.2.2.2]
set_option maxRecDepth 100000 in
set_option maxHeartbeats 1600000 in
theorem rreads_U (k : Nat) (h1 : k < 64) (h2 : 1 ≤ k) (hf : (rv.row k).form = ⟨#[85]⟩) (v : Int) (hv : 0 ≤ v ∧ v < 4294967296) (w : World) :
    Calls Try.prog 28 #[.int .i64 k, .int .u32 v] w fun e w' => e = .returned (.agg (readRow k (rv.numsK k v))) ∧ Below w.heap.size w w' := by
  have hs : rv.sh k = rv.shU := by unfold rv.sh; rw [hf]; rfl
  have hn : ∀ q, rv.numsK k v q = rv.nums v rv.shU.low rv.shU.fs q := fun q => by unfold rv.numsK; rw [hs]
  obtain ⟨m1, m2, m3, m4⟩ := rv.nums_U v hv.1 hv.2
  have n1 := (hn 1).trans m1
  have n2 := (hn 2).trans m2
  have n3 := (hn 3).trans m3
  have n4 := (hn 4).trans m4
  clear m1 m2 m3 m4
  have HT := bl.hid (fun w => rtold_U v hv w)
  obtain ⟨im, him⟩ : ∃ z, rf.toldV 85 v = z := ⟨_, rfl⟩
  have h4 : rv.numsK k v 4 = im := by rw [← him, n4]; exact (rf.told_U v hv).symm
  rw [him] at HT
  have HFrd := bl.hid (fun w => rfield_at v 7 5 128 32 (by decide) (by decide) (by omega) (by omega) hv w)
  obtain ⟨xrd, hxrd⟩ : ∃ z, v / 128 % 32 = z := ⟨_, rfl⟩
  rw [hxrd] at HFrd
  rw [hxrd] at n1
  clear hxrd
  have HN := bl.hid (And.intro n1 (And.intro n2 (And.intro n3 h4)))
  have HA := fun w => rrow_ok k w h2 h1
  unfold rv.cells at HA
  rw [hf] at HA
  obtain ⟨ra, ea⟩ : ∃ z, (rv.row k).a = z := ⟨_, rfl⟩
  obtain ⟨rb, eb⟩ : ∃ z, (rv.row k).b = z := ⟨_, rfl⟩
  obtain ⟨rc, ec⟩ : ∃ z, (rv.row k).c = z := ⟨_, rfl⟩
  obtain ⟨nm, en⟩ : ∃ z, (rv.row k).name = z := ⟨_, rfl⟩
  rw [ea, eb, ec, en] at HA
  have HRow := bl.hid HA
  clear HA ea eb ec en hf hs hn n1 n2 n3 n4 h4 him hv
  go_enter Try.func28, Try.ntmps28
  go_wp2_with fail
  refine (HRow.out _).mono ?_
  rintro e w1 ⟨rfl, hb⟩
  obtain ⟨r0, hb1, hs1⟩ := one_box hb
  have HR0 := bl.hid r0
  have HB1 := bl.hid hb1
  have k0 : w.heap.size < w1.heap.size := by omega
  clear hb r0 hb1
  go_wp2_with fail
  refine (HT.out _).mono ?_
  rintro e w' ⟨rfl, rfl⟩
  go_wp2_with fail
  refine (HFrd.out _).mono ?_
  rintro e w' ⟨rfl, rfl⟩
  have HW : Hid (∀ o1 o2 : Obj, ((w1.alloc o1).alloc o2).heap[w.heap.size]? = w1.heap[w.heap.size]?) := bl.hid fun o1 o2 => by rw [heap_alloc_old _ _ (by rw [World.size_alloc]; omega), heap_alloc_old _ _ k0]
  have HB2 : Hid (∀ o1 o2 : Obj, Below w.heap.size w ((w1.alloc o1).alloc o2)) := bl.hid fun o1 o2 => kt.below_more' (kt.below_more' HB1.out o1) o2
  go_wp2_with (refine wpList_store_row rfl 24 _ _ rfl w.heap.size #[.int .i64 k, .int .i64 xrd, .int .i64 0, .int .i64 0, .int .i64 im] rfl rfl 24 _ ((HW.out _ _).trans HR0.out) rv_info rfl (rv_one _ _ _ _ _) ?_)
  refine bodyPost_ret (results_cell_row rfl _ _ w.heap.size 24 _ (0, 0) _ rfl (setRow_heap _ _ _ _ _ _ ((HW.out _ _).trans HR0.out)) Try.underlying24 rfl rv_info) rfl ?_
  refine ⟨?_, (HB2.out _ _).trans ⟨rfl, rfl, rfl, by simp, fun k hk => setRow_other _ _ _ _ (by omega)⟩⟩
  unfold readRow
  rw [HN.out.1, HN.out.2.1, HN.out.2.2.1, HN.out.2.2.2]
set_option maxRecDepth 100000 in
set_option maxHeartbeats 1600000 in
theorem rreads_J (k : Nat) (h1 : k < 64) (h2 : 1 ≤ k) (hf : (rv.row k).form = ⟨#[74]⟩) (v : Int) (hv : 0 ≤ v ∧ v < 4294967296) (w : World) :
    Calls Try.prog 28 #[.int .i64 k, .int .u32 v] w fun e w' => e = .returned (.agg (readRow k (rv.numsK k v))) ∧ Below w.heap.size w w' := by
  have hs : rv.sh k = rv.shJ := by unfold rv.sh; rw [hf]; rfl
  have hn : ∀ q, rv.numsK k v q = rv.nums v rv.shJ.low rv.shJ.fs q := fun q => by unfold rv.numsK; rw [hs]
  obtain ⟨m1, m2, m3, m4⟩ := rv.nums_J v hv.1 hv.2
  have n1 := (hn 1).trans m1
  have n2 := (hn 2).trans m2
  have n3 := (hn 3).trans m3
  have n4 := (hn 4).trans m4
  clear m1 m2 m3 m4
  have HT := bl.hid (fun w => rtold_J v hv w)
  obtain ⟨im, him⟩ : ∃ z, rf.toldV 74 v = z := ⟨_, rfl⟩
  have h4 : rv.numsK k v 4 = im := by rw [← him, n4]; exact (rf.told_J v hv).symm
  rw [him] at HT
  have HFrd := bl.hid (fun w => rfield_at v 7 5 128 32 (by decide) (by decide) (by omega) (by omega) hv w)
  obtain ⟨xrd, hxrd⟩ : ∃ z, v / 128 % 32 = z := ⟨_, rfl⟩
  rw [hxrd] at HFrd
  rw [hxrd] at n1
  clear hxrd
  have HN := bl.hid (And.intro n1 (And.intro n2 (And.intro n3 h4)))
  have HA := fun w => rrow_ok k w h2 h1
  unfold rv.cells at HA
  rw [hf] at HA
  obtain ⟨ra, ea⟩ : ∃ z, (rv.row k).a = z := ⟨_, rfl⟩
  obtain ⟨rb, eb⟩ : ∃ z, (rv.row k).b = z := ⟨_, rfl⟩
  obtain ⟨rc, ec⟩ : ∃ z, (rv.row k).c = z := ⟨_, rfl⟩
  obtain ⟨nm, en⟩ : ∃ z, (rv.row k).name = z := ⟨_, rfl⟩
  rw [ea, eb, ec, en] at HA
  have HRow := bl.hid HA
  clear HA ea eb ec en hf hs hn n1 n2 n3 n4 h4 him hv
  go_enter Try.func28, Try.ntmps28
  go_wp2_with fail
  refine (HRow.out _).mono ?_
  rintro e w1 ⟨rfl, hb⟩
  obtain ⟨r0, hb1, hs1⟩ := one_box hb
  have HR0 := bl.hid r0
  have HB1 := bl.hid hb1
  have k0 : w.heap.size < w1.heap.size := by omega
  clear hb r0 hb1
  go_wp2_with fail
  refine (HT.out _).mono ?_
  rintro e w' ⟨rfl, rfl⟩
  go_wp2_with fail
  refine (HFrd.out _).mono ?_
  rintro e w' ⟨rfl, rfl⟩
  have HW : Hid (∀ o1 o2 : Obj, ((w1.alloc o1).alloc o2).heap[w.heap.size]? = w1.heap[w.heap.size]?) := bl.hid fun o1 o2 => by rw [heap_alloc_old _ _ (by rw [World.size_alloc]; omega), heap_alloc_old _ _ k0]
  have HB2 : Hid (∀ o1 o2 : Obj, Below w.heap.size w ((w1.alloc o1).alloc o2)) := bl.hid fun o1 o2 => kt.below_more' (kt.below_more' HB1.out o1) o2
  go_wp2_with (refine wpList_store_row rfl 24 _ _ rfl w.heap.size #[.int .i64 k, .int .i64 xrd, .int .i64 0, .int .i64 0, .int .i64 im] rfl rfl 24 _ ((HW.out _ _).trans HR0.out) rv_info rfl (rv_one _ _ _ _ _) ?_)
  refine bodyPost_ret (results_cell_row rfl _ _ w.heap.size 24 _ (0, 0) _ rfl (setRow_heap _ _ _ _ _ _ ((HW.out _ _).trans HR0.out)) Try.underlying24 rfl rv_info) rfl ?_
  refine ⟨?_, (HB2.out _ _).trans ⟨rfl, rfl, rfl, by simp, fun k hk => setRow_other _ _ _ _ (by omega)⟩⟩
  unfold readRow
  rw [HN.out.1, HN.out.2.1, HN.out.2.2.1, HN.out.2.2.2]
set_option maxRecDepth 100000 in
set_option maxHeartbeats 1600000 in
theorem rreads_E (k : Nat) (h1 : k < 64) (h2 : 1 ≤ k) (hf : (rv.row k).form = ⟨#[69]⟩) (v : Int) (hv : 0 ≤ v ∧ v < 4294967296) (w : World) :
    Calls Try.prog 28 #[.int .i64 k, .int .u32 v] w fun e w' => e = .returned (.agg (readRow k (rv.numsK k v))) ∧ Below w.heap.size w w' := by
  have hs : rv.sh k = rv.shE := by unfold rv.sh; rw [hf]; rfl
  have hn : ∀ q, rv.numsK k v q = 0 := fun q => by unfold rv.numsK; rw [hs]; rfl
  have n1 := hn 1
  have n2 := hn 2
  have n3 := hn 3
  have n4 := hn 4
  have HT := bl.hid (fun w => rtold_E v hv w)
  obtain ⟨im, him⟩ : ∃ z, rf.toldV 69 v = z := ⟨_, rfl⟩
  have h4 : rv.numsK k v 4 = im := by rw [← him, n4]; rfl
  rw [him] at HT
  have HN := bl.hid (And.intro n1 (And.intro n2 (And.intro n3 h4)))
  have HA := fun w => rrow_ok k w h2 h1
  unfold rv.cells at HA
  rw [hf] at HA
  obtain ⟨ra, ea⟩ : ∃ z, (rv.row k).a = z := ⟨_, rfl⟩
  obtain ⟨rb, eb⟩ : ∃ z, (rv.row k).b = z := ⟨_, rfl⟩
  obtain ⟨rc, ec⟩ : ∃ z, (rv.row k).c = z := ⟨_, rfl⟩
  obtain ⟨nm, en⟩ : ∃ z, (rv.row k).name = z := ⟨_, rfl⟩
  rw [ea, eb, ec, en] at HA
  have HRow := bl.hid HA
  clear HA ea eb ec en hf hs hn n1 n2 n3 n4 h4 him hv
  go_enter Try.func28, Try.ntmps28
  go_wp2_with fail
  refine (HRow.out _).mono ?_
  rintro e w1 ⟨rfl, hb⟩
  obtain ⟨r0, hb1, hs1⟩ := one_box hb
  have HR0 := bl.hid r0
  have HB1 := bl.hid hb1
  have k0 : w.heap.size < w1.heap.size := by omega
  clear hb r0 hb1
  go_wp2_with fail
  refine (HT.out _).mono ?_
  rintro e w' ⟨rfl, rfl⟩
  have HW : Hid (∀ o1 o2 : Obj, ((w1.alloc o1).alloc o2).heap[w.heap.size]? = w1.heap[w.heap.size]?) := bl.hid fun o1 o2 => by rw [heap_alloc_old _ _ (by rw [World.size_alloc]; omega), heap_alloc_old _ _ k0]
  have HB2 : Hid (∀ o1 o2 : Obj, Below w.heap.size w ((w1.alloc o1).alloc o2)) := bl.hid fun o1 o2 => kt.below_more' (kt.below_more' HB1.out o1) o2
  go_wp2_with (refine wpList_store_row rfl 24 _ _ rfl w.heap.size #[.int .i64 k, .int .i64 0, .int .i64 0, .int .i64 0, .int .i64 im] rfl rfl 24 _ ((HW.out _ _).trans HR0.out) rv_info rfl (rv_one _ _ _ _ _) ?_)
  refine bodyPost_ret (results_cell_row rfl _ _ w.heap.size 24 _ (0, 0) _ rfl (setRow_heap _ _ _ _ _ _ ((HW.out _ _).trans HR0.out)) Try.underlying24 rfl rv_info) rfl ?_
  refine ⟨?_, (HB2.out _ _).trans ⟨rfl, rfl, rfl, by simp, fun k hk => setRow_other _ _ _ _ (by omega)⟩⟩
  unfold readRow
  rw [HN.out.1, HN.out.2.1, HN.out.2.2.1, HN.out.2.2.2]
end Go.Proofs.Ytbfoooplhpikjaa
