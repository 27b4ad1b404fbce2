/- The reference's reads. The reference's Decode. -/
import Derived.Test.YtjjkocklpcdbkaaGreatGf1
import Derived.Test.YtjjkocklpcdbkaaGreatRvRead
import Derived.Test.YtjjkocklpcdbkaaGreatRfEnc
namespace Go.Proofs.YtjjkocklpcdbkaaGreat
open Go.RowKit
set_option linter.unusedVariables false
set_option maxRecDepth 100000
namespace rf
theorem told_R (k : Nat) (v : Int) (h : 0 ≤ v ∧ v < 4294967296) : toldV 82 v = 0 := rfl
theorem told_I (v : Int) (h : 0 ≤ v ∧ v < 4294967296) : toldV 73 v = (if (v / 1048576 % 4096) / 2048 = 1 then v / 1048576 % 4096 - 4096 else v / 1048576 % 4096) := by
  simp only [toldV, sg]
  obtain ⟨x0, hx0⟩ : ∃ x, v / 1048576 % 4096 = x := ⟨_, rfl⟩
  have b0 : 0 ≤ x0 ∧ x0 < 4096 := by rw [← hx0]; exact ⟨Int.emod_nonneg _ (by omega), Int.emod_lt_of_pos _ (by omega)⟩
  rw [hx0]
  clear hx0
  split <;> split <;> omega
theorem told_X (v : Int) (h : 0 ≤ v ∧ v < 4294967296) : toldV 88 v = v / 1048576 % 64 := by
  simp only [toldV]
theorem told_Y (v : Int) (h : 0 ≤ v ∧ v < 4294967296) : toldV 89 v = v / 1048576 % 32 := by
  simp only [toldV]
theorem told_S (v : Int) (h : 0 ≤ v ∧ v < 4294967296) : toldV 83 v = (if (v / 128 % 32 + v / 33554432 % 128 * 32) / 2048 = 1 then v / 128 % 32 + v / 33554432 % 128 * 32 - 4096 else v / 128 % 32 + v / 33554432 % 128 * 32) := by
  simp only [toldV, sg]
  obtain ⟨x0, hx0⟩ : ∃ x, v / 128 % 32 = x := ⟨_, rfl⟩
  have b0 : 0 ≤ x0 ∧ x0 < 32 := by rw [← hx0]; exact ⟨Int.emod_nonneg _ (by omega), Int.emod_lt_of_pos _ (by omega)⟩
  rw [hx0]
  clear hx0
  obtain ⟨x1, hx1⟩ : ∃ x, v / 33554432 % 128 = x := ⟨_, rfl⟩
  have b1 : 0 ≤ x1 ∧ x1 < 128 := by rw [← hx1]; exact ⟨Int.emod_nonneg _ (by omega), Int.emod_lt_of_pos _ (by omega)⟩
  rw [hx1]
  clear hx1
  split <;> split <;> omega
theorem told_B (v : Int) (h : 0 ≤ v ∧ v < 4294967296) : toldV 66 v = (if (v / 128 % 2 * 2048 + v / 256 % 16 * 2 + v / 33554432 % 64 * 32 + v / 2147483648 % 2 * 4096) / 4096 = 1 then v / 128 % 2 * 2048 + v / 256 % 16 * 2 + v / 33554432 % 64 * 32 + v / 2147483648 % 2 * 4096 - 8192 else v / 128 % 2 * 2048 + v / 256 % 16 * 2 + v / 33554432 % 64 * 32 + v / 2147483648 % 2 * 4096) := by
  simp only [toldV, sg]
  obtain ⟨x0, hx0⟩ : ∃ x, v / 128 % 2 = x := ⟨_, rfl⟩
  have b0 : 0 ≤ x0 ∧ x0 < 2 := by rw [← hx0]; exact ⟨Int.emod_nonneg _ (by omega), Int.emod_lt_of_pos _ (by omega)⟩
  rw [hx0]
  clear hx0
  obtain ⟨x1, hx1⟩ : ∃ x, v / 256 % 16 = x := ⟨_, rfl⟩
  have b1 : 0 ≤ x1 ∧ x1 < 16 := by rw [← hx1]; exact ⟨Int.emod_nonneg _ (by omega), Int.emod_lt_of_pos _ (by omega)⟩
  rw [hx1]
  clear hx1
  obtain ⟨x2, hx2⟩ : ∃ x, v / 33554432 % 64 = x := ⟨_, rfl⟩
  have b2 : 0 ≤ x2 ∧ x2 < 64 := by rw [← hx2]; exact ⟨Int.emod_nonneg _ (by omega), Int.emod_lt_of_pos _ (by omega)⟩
  rw [hx2]
  clear hx2
  obtain ⟨x3, hx3⟩ : ∃ x, v / 2147483648 % 2 = x := ⟨_, rfl⟩
  have b3 : 0 ≤ x3 ∧ x3 < 2 := by rw [← hx3]; exact ⟨Int.emod_nonneg _ (by omega), Int.emod_lt_of_pos _ (by omega)⟩
  rw [hx3]
  clear hx3
  split <;> split <;> omega
theorem told_U (v : Int) (h : 0 ≤ v ∧ v < 4294967296) : toldV 85 v = (if (v / 4096 % 1048576) / 524288 = 1 then v / 4096 % 1048576 - 1048576 else v / 4096 % 1048576) := by
  simp only [toldV, sg]
  obtain ⟨x0, hx0⟩ : ∃ x, v / 4096 % 1048576 = x := ⟨_, rfl⟩
  have b0 : 0 ≤ x0 ∧ x0 < 1048576 := by rw [← hx0]; exact ⟨Int.emod_nonneg _ (by omega), Int.emod_lt_of_pos _ (by omega)⟩
  rw [hx0]
  clear hx0
  split <;> split <;> omega
theorem told_J (v : Int) (h : 0 ≤ v ∧ v < 4294967296) : toldV 74 v = (if (v / 4096 % 256 * 4096 + v / 1048576 % 2 * 2048 + v / 2097152 % 1024 * 2 + v / 2147483648 % 2 * 1048576) / 1048576 = 1 then v / 4096 % 256 * 4096 + v / 1048576 % 2 * 2048 + v / 2097152 % 1024 * 2 + v / 2147483648 % 2 * 1048576 - 2097152 else v / 4096 % 256 * 4096 + v / 1048576 % 2 * 2048 + v / 2097152 % 1024 * 2 + v / 2147483648 % 2 * 1048576) := by
  simp only [toldV, sg]
  obtain ⟨x0, hx0⟩ : ∃ x, v / 4096 % 256 = x := ⟨_, rfl⟩
  have b0 : 0 ≤ x0 ∧ x0 < 256 := by rw [← hx0]; exact ⟨Int.emod_nonneg _ (by omega), Int.emod_lt_of_pos _ (by omega)⟩
  rw [hx0]
  clear hx0
  obtain ⟨x1, hx1⟩ : ∃ x, v / 1048576 % 2 = x := ⟨_, rfl⟩
  have b1 : 0 ≤ x1 ∧ x1 < 2 := by rw [← hx1]; exact ⟨Int.emod_nonneg _ (by omega), Int.emod_lt_of_pos _ (by omega)⟩
  rw [hx1]
  clear hx1
  obtain ⟨x2, hx2⟩ : ∃ x, v / 2097152 % 1024 = x := ⟨_, rfl⟩
  have b2 : 0 ≤ x2 ∧ x2 < 1024 := by rw [← hx2]; exact ⟨Int.emod_nonneg _ (by omega), Int.emod_lt_of_pos _ (by omega)⟩
  rw [hx2]
  clear hx2
  obtain ⟨x3, hx3⟩ : ∃ x, v / 2147483648 % 2 = x := ⟨_, rfl⟩
  have b3 : 0 ≤ x3 ∧ x3 < 2 := by rw [← hx3]; exact ⟨Int.emod_nonneg _ (by omega), Int.emod_lt_of_pos _ (by omega)⟩
  rw [hx3]
  clear hx3
  split <;> split <;> omega
theorem told_E (k : Nat) (v : Int) (h : 0 ≤ v ∧ v < 4294967296) : toldV 69 v = 0 := rfl
end rf
set_option maxRecDepth 100000 in
set_option maxHeartbeats 1600000 in
theorem rreads_R (k : Nat) (h1 : k < 64) (h2 : 1 ≤ k) (hf : (rv.row k).form = ⟨#[82]⟩) (v : Int) (hv : 0 ≤ v ∧ v < 4294967296) (w : World) :
    Calls Tryz.prog 74 #[.int .i64 k, .int .u32 v] w fun e w' => e = .returned (.agg (readRow k (rv.numsK k v))) ∧ Below w.heap.size w w' := by
  have hs : rv.sh k = rv.shR := by unfold rv.sh; rw [hf]; rfl
  have hn : ∀ q, rv.numsK k v q = rv.nums v rv.shR.low rv.shR.fs q := fun q => by unfold rv.numsK; rw [hs]
  obtain ⟨m1, m2, m3, m4⟩ := rv.nums_R v hv.1 hv.2
  have n1 := (hn 1).trans m1
  have n2 := (hn 2).trans m2
  have n3 := (hn 3).trans m3
  have n4 := (hn 4).trans m4
  clear m1 m2 m3 m4
  have HT := bl.hid (fun w => rtold_R v hv w)
  obtain ⟨im, him⟩ : ∃ z, rf.toldV 82 v = z := ⟨_, rfl⟩
  have h4 : rv.numsK k v 4 = im := by rw [← him, n4]; rfl
  rw [him] at HT
  have HFrd := bl.hid (fun w => rfield_at v 7 5 128 32 (by decide) (by decide) (by omega) (by omega) hv w)
  obtain ⟨xrd, hxrd⟩ : ∃ z, v / 128 % 32 = z := ⟨_, rfl⟩
  rw [hxrd] at HFrd
  rw [hxrd] at n1
  clear hxrd
  have HFrs1 := bl.hid (fun w => rfield_at v 15 5 32768 32 (by decide) (by decide) (by omega) (by omega) hv w)
  obtain ⟨xrs1, hxrs1⟩ : ∃ z, v / 32768 % 32 = z := ⟨_, rfl⟩
  rw [hxrs1] at HFrs1
  rw [hxrs1] at n2
  clear hxrs1
  have HFrs2 := bl.hid (fun w => rfield_at v 20 5 1048576 32 (by decide) (by decide) (by omega) (by omega) hv w)
  obtain ⟨xrs2, hxrs2⟩ : ∃ z, v / 1048576 % 32 = z := ⟨_, rfl⟩
  rw [hxrs2] at HFrs2
  rw [hxrs2] at n3
  clear hxrs2
  have HN := bl.hid (And.intro n1 (And.intro n2 (And.intro n3 h4)))
  have HA := fun w => rrow_ok k w h2 h1
  unfold rv.cells at HA
  rw [hf] at HA
  obtain ⟨ra, ea⟩ : ∃ z, (rv.row k).a = z := ⟨_, rfl⟩
  obtain ⟨rb, eb⟩ : ∃ z, (rv.row k).b = z := ⟨_, rfl⟩
  obtain ⟨rc, ec⟩ : ∃ z, (rv.row k).c = z := ⟨_, rfl⟩
  obtain ⟨nm, en⟩ : ∃ z, (rv.row k).name = z := ⟨_, rfl⟩
  rw [ea, eb, ec, en] at HA
  have HRow := bl.hid HA
  clear HA ea eb ec en hf hs hn n1 n2 n3 n4 h4 him hv
  go_enter Tryz.func74, Tryz.ntmps74
  go_wp2_with fail
  refine (HRow.out _).mono ?_
  rintro e w1 ⟨rfl, hb⟩
  obtain ⟨r0, hb1, hs1⟩ := one_box hb
  have HR0 := bl.hid r0
  have HB1 := bl.hid hb1
  have k0 : w.heap.size < w1.heap.size := by omega
  clear hb r0 hb1
  go_wp2_with fail
  refine (HT.out _).mono ?_
  rintro e w' ⟨rfl, rfl⟩
  go_wp2_with fail
  refine (HFrd.out _).mono ?_
  rintro e w' ⟨rfl, rfl⟩
  go_wp2_with fail
  refine (HFrs1.out _).mono ?_
  rintro e w' ⟨rfl, rfl⟩
  go_wp2_with fail
  refine (HFrs2.out _).mono ?_
  rintro e w' ⟨rfl, rfl⟩
  have HW : Hid (∀ o1 o2 : Obj, ((w1.alloc o1).alloc o2).heap[w.heap.size]? = w1.heap[w.heap.size]?) := bl.hid fun o1 o2 => by rw [heap_alloc_old _ _ (by rw [World.size_alloc]; omega), heap_alloc_old _ _ k0]
  have HB2 : Hid (∀ o1 o2 : Obj, Below w.heap.size w ((w1.alloc o1).alloc o2)) := bl.hid fun o1 o2 => kt.below_more' (kt.below_more' HB1.out o1) o2
  go_wp2_with (refine wpList_store_row rfl 71 _ _ rfl w.heap.size #[.int .i64 k, .int .i64 xrd, .int .i64 xrs1, .int .i64 xrs2, .int .i64 im] rfl rfl 71 _ ((HW.out _ _).trans HR0.out) rv_info rfl (rv_one _ _ _ _ _) ?_)
  refine bodyPost_ret (results_cell_row rfl _ _ w.heap.size 71 _ (0, 0) _ rfl (setRow_heap _ _ _ _ _ _ ((HW.out _ _).trans HR0.out)) Tryz.underlying71 rfl rv_info) rfl ?_
  refine ⟨?_, (HB2.out _ _).trans ⟨rfl, rfl, rfl, by simp, fun k hk => setRow_other _ _ _ _ (by omega)⟩⟩
  unfold readRow
  rw [HN.out.1, HN.out.2.1, HN.out.2.2.1, HN.out.2.2.2]
set_option maxRecDepth 100000 in
set_option maxHeartbeats 1600000 in
theorem rreads_I (k : Nat) (h1 : k < 64) (h2 : 1 ≤ k) (hf : (rv.row k).form = ⟨#[73]⟩) (v : Int) (hv : 0 ≤ v ∧ v < 4294967296) (w : World) :
    Calls Tryz.prog 74 #[.int .i64 k, .int .u32 v] w fun e w' => e = .returned (.agg (readRow k (rv.numsK k v))) ∧ Below w.heap.size w w' := by
  have hs : rv.sh k = rv.shI := by unfold rv.sh; rw [hf]; rfl
  have hn : ∀ q, rv.numsK k v q = rv.nums v rv.shI.low rv.shI.fs q := fun q => by unfold rv.numsK; rw [hs]
  obtain ⟨m1, m2, m3, m4⟩ := rv.nums_I v hv.1 hv.2
  have n1 := (hn 1).trans m1
  have n2 := (hn 2).trans m2
  have n3 := (hn 3).trans m3
  have n4 := (hn 4).trans m4
  clear m1 m2 m3 m4
  have HT := bl.hid (fun w => rtold_I v hv w)
  obtain ⟨im, him⟩ : ∃ z, rf.toldV 73 v = z := ⟨_, rfl⟩
  have h4 : rv.numsK k v 4 = im := by rw [← him, n4]; exact (rf.told_I v hv).symm
  rw [him] at HT
  have HFrd := bl.hid (fun w => rfield_at v 7 5 128 32 (by decide) (by decide) (by omega) (by omega) hv w)
  obtain ⟨xrd, hxrd⟩ : ∃ z, v / 128 % 32 = z := ⟨_, rfl⟩
  rw [hxrd] at HFrd
  rw [hxrd] at n1
  clear hxrd
  have HFrs1 := bl.hid (fun w => rfield_at v 15 5 32768 32 (by decide) (by decide) (by omega) (by omega) hv w)
  obtain ⟨xrs1, hxrs1⟩ : ∃ z, v / 32768 % 32 = z := ⟨_, rfl⟩
  rw [hxrs1] at HFrs1
  rw [hxrs1] at n2
  clear hxrs1
  have HN := bl.hid (And.intro n1 (And.intro n2 (And.intro n3 h4)))
  have HA := fun w => rrow_ok k w h2 h1
  unfold rv.cells at HA
  rw [hf] at HA
  obtain ⟨ra, ea⟩ : ∃ z, (rv.row k).a = z := ⟨_, rfl⟩
  obtain ⟨rb, eb⟩ : ∃ z, (rv.row k).b = z := ⟨_, rfl⟩
  obtain ⟨rc, ec⟩ : ∃ z, (rv.row k).c = z := ⟨_, rfl⟩
  obtain ⟨nm, en⟩ : ∃ z, (rv.row k).name = z := ⟨_, rfl⟩
  rw [ea, eb, ec, en] at HA
  have HRow := bl.hid HA
  clear HA ea eb ec en hf hs hn n1 n2 n3 n4 h4 him hv
  go_enter Tryz.func74, Tryz.ntmps74
  go_wp2_with fail
  refine (HRow.out _).mono ?_
  rintro e w1 ⟨rfl, hb⟩
  obtain ⟨r0, hb1, hs1⟩ := one_box hb
  have HR0 := bl.hid r0
  have HB1 := bl.hid hb1
  have k0 : w.heap.size < w1.heap.size := by omega
  clear hb r0 hb1
  go_wp2_with fail
  refine (HT.out _).mono ?_
  rintro e w' ⟨rfl, rfl⟩
  go_wp2_with fail
  refine (HFrd.out _).mono ?_
  rintro e w' ⟨rfl, rfl⟩
  go_wp2_with fail
  refine (HFrs1.out _).mono ?_
  rintro e w' ⟨rfl, rfl⟩
  have HW : Hid (∀ o1 o2 : Obj, ((w1.alloc o1).alloc o2).heap[w.heap.size]? = w1.heap[w.heap.size]?) := bl.hid fun o1 o2 => by rw [heap_alloc_old _ _ (by rw [World.size_alloc]; omega), heap_alloc_old _ _ k0]
  have HB2 : Hid (∀ o1 o2 : Obj, Below w.heap.size w ((w1.alloc o1).alloc o2)) := bl.hid fun o1 o2 => kt.below_more' (kt.below_more' HB1.out o1) o2
  go_wp2_with (refine wpList_store_row rfl 71 _ _ rfl w.heap.size #[.int .i64 k, .int .i64 xrd, .int .i64 xrs1, .int .i64 0, .int .i64 im] rfl rfl 71 _ ((HW.out _ _).trans HR0.out) rv_info rfl (rv_one _ _ _ _ _) ?_)
  refine bodyPost_ret (results_cell_row rfl _ _ w.heap.size 71 _ (0, 0) _ rfl (setRow_heap _ _ _ _ _ _ ((HW.out _ _).trans HR0.out)) Tryz.underlying71 rfl rv_info) rfl ?_
  refine ⟨?_, (HB2.out _ _).trans ⟨rfl, rfl, rfl, by simp, fun k hk => setRow_other _ _ _ _ (by omega)⟩⟩
  unfold readRow
  rw [HN.out.1, HN.out.2.1, HN.out.2.2.1, HN.out.2.2.2]
set_option maxRecDepth 100000 in
set_option maxHeartbeats 1600000 in
theorem rreads_X (k : Nat) (h1 : k < 64) (h2 : 1 ≤ k) (hf : (rv.row k).form = ⟨#[88]⟩) (v : Int) (hv : 0 ≤ v ∧ v < 4294967296) (w : World) :
    Calls Tryz.prog 74 #[.int .i64 k, .int .u32 v] w fun e w' => e = .returned (.agg (readRow k (rv.numsK k v))) ∧ Below w.heap.size w w' := by
  have hs : rv.sh k = rv.shX := by unfold rv.sh; rw [hf]; rfl
  have hn : ∀ q, rv.numsK k v q = rv.nums v rv.shX.low rv.shX.fs q := fun q => by unfold rv.numsK; rw [hs]
  obtain ⟨m1, m2, m3, m4⟩ := rv.nums_X v hv.1 hv.2
  have n1 := (hn 1).trans m1
  have n2 := (hn 2).trans m2
  have n3 := (hn 3).trans m3
  have n4 := (hn 4).trans m4
  clear m1 m2 m3 m4
  have HT := bl.hid (fun w => rtold_X v hv w)
  obtain ⟨im, him⟩ : ∃ z, rf.toldV 88 v = z := ⟨_, rfl⟩
  have h4 : rv.numsK k v 4 = im := by rw [← him, n4]; exact (rf.told_X v hv).symm
  rw [him] at HT
  have HFrd := bl.hid (fun w => rfield_at v 7 5 128 32 (by decide) (by decide) (by omega) (by omega) hv w)
  obtain ⟨xrd, hxrd⟩ : ∃ z, v / 128 % 32 = z := ⟨_, rfl⟩
  rw [hxrd] at HFrd
  rw [hxrd] at n1
  clear hxrd
  have HFrs1 := bl.hid (fun w => rfield_at v 15 5 32768 32 (by decide) (by decide) (by omega) (by omega) hv w)
  obtain ⟨xrs1, hxrs1⟩ : ∃ z, v / 32768 % 32 = z := ⟨_, rfl⟩
  rw [hxrs1] at HFrs1
  rw [hxrs1] at n2
  clear hxrs1
  have HN := bl.hid (And.intro n1 (And.intro n2 (And.intro n3 h4)))
  have HA := fun w => rrow_ok k w h2 h1
  unfold rv.cells at HA
  rw [hf] at HA
  obtain ⟨ra, ea⟩ : ∃ z, (rv.row k).a = z := ⟨_, rfl⟩
  obtain ⟨rb, eb⟩ : ∃ z, (rv.row k).b = z := ⟨_, rfl⟩
  obtain ⟨rc, ec⟩ : ∃ z, (rv.row k).c = z := ⟨_, rfl⟩
  obtain ⟨nm, en⟩ : ∃ z, (rv.row k).name = z := ⟨_, rfl⟩
  rw [ea, eb, ec, en] at HA
  have HRow := bl.hid HA
  clear HA ea eb ec en hf hs hn n1 n2 n3 n4 h4 him hv
  go_enter Tryz.func74, Tryz.ntmps74
  go_wp2_with fail
  refine (HRow.out _).mono ?_
  rintro e w1 ⟨rfl, hb⟩
  obtain ⟨r0, hb1, hs1⟩ := one_box hb
  have HR0 := bl.hid r0
  have HB1 := bl.hid hb1
  have k0 : w.heap.size < w1.heap.size := by omega
  clear hb r0 hb1
  go_wp2_with fail
  refine (HT.out _).mono ?_
  rintro e w' ⟨rfl, rfl⟩
  go_wp2_with fail
  refine (HFrd.out _).mono ?_
  rintro e w' ⟨rfl, rfl⟩
  go_wp2_with fail
  refine (HFrs1.out _).mono ?_
  rintro e w' ⟨rfl, rfl⟩
  have HW : Hid (∀ o1 o2 : Obj, ((w1.alloc o1).alloc o2).heap[w.heap.size]? = w1.heap[w.heap.size]?) := bl.hid fun o1 o2 => by rw [heap_alloc_old _ _ (by rw [World.size_alloc]; omega), heap_alloc_old _ _ k0]
  have HB2 : Hid (∀ o1 o2 : Obj, Below w.heap.size w ((w1.alloc o1).alloc o2)) := bl.hid fun o1 o2 => kt.below_more' (kt.below_more' HB1.out o1) o2
  go_wp2_with (refine wpList_store_row rfl 71 _ _ rfl w.heap.size #[.int .i64 k, .int .i64 xrd, .int .i64 xrs1, .int .i64 0, .int .i64 im] rfl rfl 71 _ ((HW.out _ _).trans HR0.out) rv_info rfl (rv_one _ _ _ _ _) ?_)
  refine bodyPost_ret (results_cell_row rfl _ _ w.heap.size 71 _ (0, 0) _ rfl (setRow_heap _ _ _ _ _ _ ((HW.out _ _).trans HR0.out)) Tryz.underlying71 rfl rv_info) rfl ?_
  refine ⟨?_, (HB2.out _ _).trans ⟨rfl, rfl, rfl, by simp, fun k hk => setRow_other _ _ _ _ (by omega)⟩⟩
  unfold readRow
  rw [HN.out.1, HN.out.2.1, HN.out.2.2.1, HN.out.2.2.2]
set_option maxRecDepth 100000 in
set_option maxHeartbeats 1600000 in
theorem rreads_Y (k : Nat) (h1 : k < 64) (h2 : 1 ≤ k) (hf : (rv.row k).form = ⟨#[89]⟩) (v : Int) (hv : 0 ≤ v ∧ v < 4294967296) (w : World) :
    Calls Tryz.prog 74 #[.int .i64 k, .int .u32 v] w fun e w' => e = .returned (.agg (readRow k (rv.numsK k v))) ∧ Below w.heap.size w w' := by
  have hs : rv.sh k = rv.shY := by unfold rv.sh; rw [hf]; rfl
  have hn : ∀ q, rv.numsK k v q = rv.nums v rv.shY.low rv.shY.fs q := fun q => by unfold rv.numsK; rw [hs]
  obtain ⟨m1, m2, m3, m4⟩ := rv.nums_Y v hv.1 hv.2
  have n1 := (hn 1).trans m1
  have n2 := (hn 2).trans m2
  have n3 := (hn 3).trans m3
  have n4 := (hn 4).trans m4
  clear m1 m2 m3 m4
  have HT := bl.hid (fun w => rtold_Y v hv w)
  obtain ⟨im, him⟩ : ∃ z, rf.toldV 89 v = z := ⟨_, rfl⟩
  have h4 : rv.numsK k v 4 = im := by rw [← him, n4]; exact (rf.told_Y v hv).symm
  rw [him] at HT
  have HFrd := bl.hid (fun w => rfield_at v 7 5 128 32 (by decide) (by decide) (by omega) (by omega) hv w)
  obtain ⟨xrd, hxrd⟩ : ∃ z, v / 128 % 32 = z := ⟨_, rfl⟩
  rw [hxrd] at HFrd
  rw [hxrd] at n1
  clear hxrd
  have HFrs1 := bl.hid (fun w => rfield_at v 15 5 32768 32 (by decide) (by decide) (by omega) (by omega) hv w)
  obtain ⟨xrs1, hxrs1⟩ : ∃ z, v / 32768 % 32 = z := ⟨_, rfl⟩
  rw [hxrs1] at HFrs1
  rw [hxrs1] at n2
  clear hxrs1
  have HN := bl.hid (And.intro n1 (And.intro n2 (And.intro n3 h4)))
  have HA := fun w => rrow_ok k w h2 h1
  unfold rv.cells at HA
  rw [hf] at HA
  obtain ⟨ra, ea⟩ : ∃ z, (rv.row k).a = z := ⟨_, rfl⟩
  obtain ⟨rb, eb⟩ : ∃ z, (rv.row k).b = z := ⟨_, rfl⟩
  obtain ⟨rc, ec⟩ : ∃ z, (rv.row k).c = z := ⟨_, rfl⟩
  obtain ⟨nm, en⟩ : ∃ z, (rv.row k).name = z := ⟨_, rfl⟩
  rw [ea, eb, ec, en] at HA
  have HRow := bl.hid HA
  clear HA ea eb ec en hf hs hn n1 n2 n3 n4 h4 him hv
  go_enter Tryz.func74, Tryz.ntmps74
  go_wp2_with fail
  refine (HRow.out _).mono ?_
  rintro e w1 ⟨rfl, hb⟩
  obtain ⟨r0, hb1, hs1⟩ := one_box hb
  have HR0 := bl.hid r0
  have HB1 := bl.hid hb1
  have k0 : w.heap.size < w1.heap.size := by omega
  clear hb r0 hb1
  go_wp2_with fail
  refine (HT.out _).mono ?_
  rintro e w' ⟨rfl, rfl⟩
  go_wp2_with fail
  refine (HFrd.out _).mono ?_
  rintro e w' ⟨rfl, rfl⟩
  go_wp2_with fail
  refine (HFrs1.out _).mono ?_
  rintro e w' ⟨rfl, rfl⟩
  have HW : Hid (∀ o1 o2 : Obj, ((w1.alloc o1).alloc o2).heap[w.heap.size]? = w1.heap[w.heap.size]?) := bl.hid fun o1 o2 => by rw [heap_alloc_old _ _ (by rw [World.size_alloc]; omega), heap_alloc_old _ _ k0]
  have HB2 : Hid (∀ o1 o2 : Obj, Below w.heap.size w ((w1.alloc o1).alloc o2)) := bl.hid fun o1 o2 => kt.below_more' (kt.below_more' HB1.out o1) o2
  go_wp2_with (refine wpList_store_row rfl 71 _ _ rfl w.heap.size #[.int .i64 k, .int .i64 xrd, .int .i64 xrs1, .int .i64 0, .int .i64 im] rfl rfl 71 _ ((HW.out _ _).trans HR0.out) rv_info rfl (rv_one _ _ _ _ _) ?_)
  refine bodyPost_ret (results_cell_row rfl _ _ w.heap.size 71 _ (0, 0) _ rfl (setRow_heap _ _ _ _ _ _ ((HW.out _ _).trans HR0.out)) Tryz.underlying71 rfl rv_info) rfl ?_
  refine ⟨?_, (HB2.out _ _).trans ⟨rfl, rfl, rfl, by simp, fun k hk => setRow_other _ _ _ _ (by omega)⟩⟩
  unfold readRow
  rw [HN.out.1, HN.out.2.1, HN.out.2.2.1, HN.out.2.2.2]
set_option maxRecDepth 100000 in
set_option maxHeartbeats 1600000 in
theorem rreads_S (k : Nat) (h1 : k < 64) (h2 : 1 ≤ k) (hf : (rv.row k).form = ⟨#[83]⟩) (v : Int) (hv : 0 ≤ v ∧ v < 4294967296) (w : World) :
    Calls Tryz.prog 74 #[.int .i64 k, .int .u32 v] w fun e w' => e = .returned (.agg (readRow k (rv.numsK k v))) ∧ Below w.heap.size w w' := by
  have hs : rv.sh k = rv.shS := by unfold rv.sh; rw [hf]; rfl
  have hn : ∀ q, rv.numsK k v q = rv.nums v rv.shS.low rv.shS.fs q := fun q => by unfold rv.numsK; rw [hs]
  obtain ⟨m1, m2, m3, m4⟩ := rv.nums_S v hv.1 hv.2
  have n1 := (hn 1).trans m1
  have n2 := (hn 2).trans m2
  have n3 := (hn 3).trans m3
  have n4 := (hn 4).trans m4
  clear m1 m2 m3 m4
  have HT := bl.hid (fun w => rtold_S v hv w)
  obtain ⟨im, him⟩ : ∃ z, rf.toldV 83 v = z := ⟨_, rfl⟩
  have h4 : rv.numsK k v 4 = im := by rw [← him, n4]; exact (rf.told_S v hv).symm
  rw [him] at HT
  have HFrs1 := bl.hid (fun w => rfield_at v 15 5 32768 32 (by decide) (by decide) (by omega) (by omega) hv w)
  obtain ⟨xrs1, hxrs1⟩ : ∃ z, v / 32768 % 32 = z := ⟨_, rfl⟩
  rw [hxrs1] at HFrs1
  rw [hxrs1] at n2
  clear hxrs1
  have HFrs2 := bl.hid (fun w => rfield_at v 20 5 1048576 32 (by decide) (by decide) (by omega) (by omega) hv w)
  obtain ⟨xrs2, hxrs2⟩ : ∃ z, v / 1048576 % 32 = z := ⟨_, rfl⟩
  rw [hxrs2] at HFrs2
  rw [hxrs2] at n3
  clear hxrs2
  have HN := bl.hid (And.intro n1 (And.intro n2 (And.intro n3 h4)))
  have HA := fun w => rrow_ok k w h2 h1
  unfold rv.cells at HA
  rw [hf] at HA
  obtain ⟨ra, ea⟩ : ∃ z, (rv.row k).a = z := ⟨_, rfl⟩
  obtain ⟨rb, eb⟩ : ∃ z, (rv.row k).b = z := ⟨_, rfl⟩
  obtain ⟨rc, ec⟩ : ∃ z, (rv.row k).c = z := ⟨_, rfl⟩
  obtain ⟨nm, en⟩ : ∃ z, (rv.row k).name = z := ⟨_, rfl⟩
  rw [ea, eb, ec, en] at HA
  have HRow := bl.hid HA
  clear HA ea eb ec en hf hs hn n1 n2 n3 n4 h4 him hv
  go_enter Tryz.func74, Tryz.ntmps74
  go_wp2_with fail
  refine (HRow.out _).mono ?_
  rintro e w1 ⟨rfl, hb⟩
  obtain ⟨r0, hb1, hs1⟩ := one_box hb
  have HR0 := bl.hid r0
  have HB1 := bl.hid hb1
  have k0 : w.heap.size < w1.heap.size := by omega
  clear hb r0 hb1
  go_wp2_with fail
  refine (HT.out _).mono ?_
  rintro e w' ⟨rfl, rfl⟩
  go_wp2_with fail
  refine (HFrs1.out _).mono ?_
  rintro e w' ⟨rfl, rfl⟩
  go_wp2_with fail
  refine (HFrs2.out _).mono ?_
  rintro e w' ⟨rfl, rfl⟩
  have HW : Hid (∀ o1 o2 : Obj, ((w1.alloc o1).alloc o2).heap[w.heap.size]? = w1.heap[w.heap.size]?) := bl.hid fun o1 o2 => by rw [heap_alloc_old _ _ (by rw [World.size_alloc]; omega), heap_alloc_old _ _ k0]
  have HB2 : Hid (∀ o1 o2 : Obj, Below w.heap.size w ((w1.alloc o1).alloc o2)) := bl.hid fun o1 o2 => kt.below_more' (kt.below_more' HB1.out o1) o2
  go_wp2_with (refine wpList_store_row rfl 71 _ _ rfl w.heap.size #[.int .i64 k, .int .i64 0, .int .i64 xrs1, .int .i64 xrs2, .int .i64 im] rfl rfl 71 _ ((HW.out _ _).trans HR0.out) rv_info rfl (rv_one _ _ _ _ _) ?_)
  refine bodyPost_ret (results_cell_row rfl _ _ w.heap.size 71 _ (0, 0) _ rfl (setRow_heap _ _ _ _ _ _ ((HW.out _ _).trans HR0.out)) Tryz.underlying71 rfl rv_info) rfl ?_
  refine ⟨?_, (HB2.out _ _).trans ⟨rfl, rfl, rfl, by simp, fun k hk => setRow_other _ _ _ _ (by omega)⟩⟩
  unfold readRow
  rw [HN.out.1, HN.out.2.1, HN.out.2.2.1, HN.out.2.2.2]
set_option maxRecDepth 100000 in
set_option maxHeartbeats 1600000 in
theorem rreads_B (k : Nat) (h1 : k < 64) (h2 : 1 ≤ k) (hf : (rv.row k).form = ⟨#[66]⟩) (v : Int) (hv : 0 ≤ v ∧ v < 4294967296) (w : World) :
    Calls Tryz.prog 74 #[.int .i64 k, .int .u32 v] w fun e w' => e = .returned (.agg (readRow k (rv.numsK k v))) ∧ Below w.heap.size w w' := by
  have hs : rv.sh k = rv.shB := by unfold rv.sh; rw [hf]; rfl
  have hn : ∀ q, rv.numsK k v q = rv.nums v rv.shB.low rv.shB.fs q := fun q => by unfold rv.numsK; rw [hs]
  obtain ⟨m1, m2, m3, m4⟩ := rv.nums_B v hv.1 hv.2
  have n1 := (hn 1).trans m1
  have n2 := (hn 2).trans m2
  have n3 := (hn 3).trans m3
  have n4 := (hn 4).trans m4
  clear m1 m2 m3 m4
  have HT := bl.hid (fun w => rtold_B v hv w)
  obtain ⟨im, him⟩ : ∃ z, rf.toldV 66 v = z := ⟨_, rfl⟩
  have h4 : rv.numsK k v 4 = im := by rw [← him, n4]; exact (rf.told_B v hv).symm
  rw [him] at HT
  have HFrs1 := bl.hid (fun w => rfield_at v 15 5 32768 32 (by decide) (by decide) (by omega) (by omega) hv w)
  obtain ⟨xrs1, hxrs1⟩ : ∃ z, v / 32768 % 32 = z := ⟨_, rfl⟩
  rw [hxrs1] at HFrs1
  rw [hxrs1] at n2
  clear hxrs1
  have HFrs2 := bl.hid (fun w => rfield_at v 20 5 1048576 32 (by decide) (by decide) (by omega) (by omega) hv w)
  obtain ⟨xrs2, hxrs2⟩ : ∃ z, v / 1048576 % 32 = z := ⟨_, rfl⟩
  rw [hxrs2] at HFrs2
  rw [hxrs2] at n3
  clear hxrs2
  have HN := bl.hid (And.intro n1 (And.intro n2 (And.intro n3 h4)))
  have HA := fun w => rrow_ok k w h2 h1
  unfold rv.cells at HA
  rw [hf] at HA
  obtain ⟨ra, ea⟩ : ∃ z, (rv.row k).a = z := ⟨_, rfl⟩
  obtain ⟨rb, eb⟩ : ∃ z, (rv.row k).b = z := ⟨_, rfl⟩
  obtain ⟨rc, ec⟩ : ∃ z, (rv.row k).c = z := ⟨_, rfl⟩
  obtain ⟨nm, en⟩ : ∃ z, (rv.row k).name = z := ⟨_, rfl⟩
  rw [ea, eb, ec, en] at HA
  have HRow := bl.hid HA
  clear HA ea eb ec en hf hs hn n1 n2 n3 n4 h4 him hv
  go_enter Tryz.func74, Tryz.ntmps74
  go_wp2_with fail
  refine (HRow.out _).mono ?_
  rintro e w1 ⟨rfl, hb⟩
  obtain ⟨r0, hb1, hs1⟩ := one_box hb
  have HR0 := bl.hid r0
  have HB1 := bl.hid hb1
  have k0 : w.heap.size < w1.heap.size := by omega
  clear hb r0 hb1
  go_wp2_with fail
  refine (HT.out _).mono ?_
  rintro e w' ⟨rfl, rfl⟩
  go_wp2_with fail
  refine (HFrs1.out _).mono ?_
  rintro e w' ⟨rfl, rfl⟩
  go_wp2_with fail
  refine (HFrs2.out _).mono ?_
  rintro e w' ⟨rfl, rfl⟩
  have HW : Hid (∀ o1 o2 : Obj, ((w1.alloc o1).alloc o2).heap[w.heap.size]? = w1.heap[w.heap.size]?) := bl.hid fun o1 o2 => by rw [heap_alloc_old _ _ (by rw [World.size_alloc]; omega), heap_alloc_old _ _ k0]
  have HB2 : Hid (∀ o1 o2 : Obj, Below w.heap.size w ((w1.alloc o1).alloc o2)) := bl.hid fun o1 o2 => kt.below_more' (kt.below_more' HB1.out o1) o2
  go_wp2_with (refine wpList_store_row rfl 71 _ _ rfl w.heap.size #[.int .i64 k, .int .i64 0, .int .i64 xrs1, .int .i64 xrs2, .int .i64 im] rfl rfl 71 _ ((HW.out _ _).trans HR0.out) rv_info rfl (rv_one _ _ _ _ _) ?_)
  refine bodyPost_ret (results_cell_row rfl _ _ w.heap.size 71 _ (0, 0) _ rfl (setRow_heap _ _ _ _ _ _ ((HW.out _ _).trans HR0.out)) Tryz.underlying71 rfl rv_info) rfl ?_
  refine ⟨?_, (HB2.out _ _).trans ⟨rfl, rfl, rfl, by simp, fun k hk => setRow_other _ _ _ _ (by omega)⟩⟩
  unfold readRow
  rw [HN.out.1, HN.out.2.1, HN.out.2.2.1, HN.out.2.2.2]
set_option maxRecDepth 100000 in
set_option maxHeartbeats 1600000 in
theorem rreads_U (k : Nat) (h1 : k < 64) (h2 : 1 ≤ k) (hf : (rv.row k).form = ⟨#[85]⟩) (v : Int) (hv : 0 ≤ v ∧ v < 4294967296) (w : World) :
    Calls Tryz.prog 74 #[.int .i64 k, .int .u32 v] w fun e w' => e = .returned (.agg (readRow k (rv.numsK k v))) ∧ Below w.heap.size w w' := by
  have hs : rv.sh k = rv.shU := by unfold rv.sh; rw [hf]; rfl
  have hn : ∀ q, rv.numsK k v q = rv.nums v rv.shU.low rv.shU.fs q := fun q => by unfold rv.numsK; rw [hs]
  obtain ⟨m1, m2, m3, m4⟩ := rv.nums_U v hv.1 hv.2
  have n1 := (hn 1).trans m1
  have n2 := (hn 2).trans m2
  have n3 := (hn 3).trans m3
  have n4 := (hn 4).trans m4
  clear m1 m2 m3 m4
  have HT := bl.hid (fun w => rtold_U v hv w)
  obtain ⟨im, him⟩ : ∃ z, rf.toldV 85 v = z := ⟨_, rfl⟩
  have h4 : rv.numsK k v 4 = im := by rw [← him, n4]; exact (rf.told_U v hv).symm
  rw [him] at HT
  have HFrd := bl.hid (fun w => rfield_at v 7 5 128 32 (by decide) (by decide) (by omega) (by omega) hv w)
  obtain ⟨xrd, hxrd⟩ : ∃ z, v / 128 % 32 = z := ⟨_, rfl⟩
  rw [hxrd] at HFrd
  rw [hxrd] at n1
  clear hxrd
  have HN := bl.hid (And.intro n1 (And.intro n2 (And.intro n3 h4)))
  have HA := fun w => rrow_ok k w h2 h1
  unfold rv.cells at HA
  rw [hf] at HA
  obtain ⟨ra, ea⟩ : ∃ z, (rv.row k).a = z := ⟨_, rfl⟩
  obtain ⟨rb, eb⟩ : ∃ z, (rv.row k).b = z := ⟨_, rfl⟩
  obtain ⟨rc, ec⟩ : ∃ z, (rv.row k).c = z := ⟨_, rfl⟩
  obtain ⟨nm, en⟩ : ∃ z, (rv.row k).name = z := ⟨_, rfl⟩
  rw [ea, eb, ec, en] at HA
  have HRow := bl.hid HA
  clear HA ea eb ec en hf hs hn n1 n2 n3 n4 h4 him hv
  go_enter Tryz.func74, Tryz.ntmps74
  go_wp2_with fail
  refine (HRow.out _).mono ?_
  rintro e w1 ⟨rfl, hb⟩
  obtain ⟨r0, hb1, hs1⟩ := one_box hb
  have HR0 := bl.hid r0
  have HB1 := bl.hid hb1
  have k0 : w.heap.size < w1.heap.size := by omega
  clear hb r0 hb1
  go_wp2_with fail
  refine (HT.out _).mono ?_
  rintro e w' ⟨rfl, rfl⟩
  go_wp2_with fail
  refine (HFrd.out _).mono ?_
  rintro e w' ⟨rfl, rfl⟩
  have HW : Hid (∀ o1 o2 : Obj, ((w1.alloc o1).alloc o2).heap[w.heap.size]? = w1.heap[w.heap.size]?) := bl.hid fun o1 o2 => by rw [heap_alloc_old _ _ (by rw [World.size_alloc]; omega), heap_alloc_old _ _ k0]
  have HB2 : Hid (∀ o1 o2 : Obj, Below w.heap.size w ((w1.alloc o1).alloc o2)) := bl.hid fun o1 o2 => kt.below_more' (kt.below_more' HB1.out o1) o2
  go_wp2_with (refine wpList_store_row rfl 71 _ _ rfl w.heap.size #[.int .i64 k, .int .i64 xrd, .int .i64 0, .int .i64 0, .int .i64 im] rfl rfl 71 _ ((HW.out _ _).trans HR0.out) rv_info rfl (rv_one _ _ _ _ _) ?_)
  refine bodyPost_ret (results_cell_row rfl _ _ w.heap.size 71 _ (0, 0) _ rfl (setRow_heap _ _ _ _ _ _ ((HW.out _ _).trans HR0.out)) Tryz.underlying71 rfl rv_info) rfl ?_
  refine ⟨?_, (HB2.out _ _).trans ⟨rfl, rfl, rfl, by simp, fun k hk => setRow_other _ _ _ _ (by omega)⟩⟩
  unfold readRow
  rw [HN.out.1, HN.out.2.1, HN.out.2.2.1, HN.out.2.2.2]
set_option maxRecDepth 100000 in
set_option maxHeartbeats 1600000 in
theorem rreads_J (k : Nat) (h1 : k < 64) (h2 : 1 ≤ k) (hf : (rv.row k).form = ⟨#[74]⟩) (v : Int) (hv : 0 ≤ v ∧ v < 4294967296) (w : World) :
    Calls Tryz.prog 74 #[.int .i64 k, .int .u32 v] w fun e w' => e = .returned (.agg (readRow k (rv.numsK k v))) ∧ Below w.heap.size w w' := by
  have hs : rv.sh k = rv.shJ := by unfold rv.sh; rw [hf]; rfl
  have hn : ∀ q, rv.numsK k v q = rv.nums v rv.shJ.low rv.shJ.fs q := fun q => by unfold rv.numsK; rw [hs]
  obtain ⟨m1, m2, m3, m4⟩ := rv.nums_J v hv.1 hv.2
  have n1 := (hn 1).trans m1
  have n2 := (hn 2).trans m2
  have n3 := (hn 3).trans m3
  have n4 := (hn 4).trans m4
  clear m1 m2 m3 m4
  have HT := bl.hid (fun w => rtold_J v hv w)
  obtain ⟨im, him⟩ : ∃ z, rf.toldV 74 v = z := ⟨_, rfl⟩
  have h4 : rv.numsK k v 4 = im := by rw [← him, n4]; exact (rf.told_J v hv).symm
  rw [him] at HT
  have HFrd := bl.hid (fun w => rfield_at v 7 5 128 32 (by decide) (by decide) (by omega) (by omega) hv w)
  obtain ⟨xrd, hxrd⟩ : ∃ z, v / 128 % 32 = z := ⟨_, rfl⟩
  rw [hxrd] at HFrd
  rw [hxrd] at n1
  clear hxrd
  have HN := bl.hid (And.intro n1 (And.intro n2 (And.intro n3 h4)))
  have HA := fun w => rrow_ok k w h2 h1
  unfold rv.cells at HA
  rw [hf] at HA
  obtain ⟨ra, ea⟩ : ∃ z, (rv.row k).a = z := ⟨_, rfl⟩
  obtain ⟨rb, eb⟩ : ∃ z, (rv.row k).b = z := ⟨_, rfl⟩
  obtain ⟨rc, ec⟩ : ∃ z, (rv.row k).c = z := ⟨_, rfl⟩
  obtain ⟨nm, en⟩ : ∃ z, (rv.row k).name = z := ⟨_, rfl⟩
  rw [ea, eb, ec, en] at HA
  have HRow := bl.hid HA
  clear HA ea eb ec en hf hs hn n1 n2 n3 n4 h4 him hv
  go_enter Tryz.func74, Tryz.ntmps74
  go_wp2_with fail
  refine (HRow.out _).mono ?_
  rintro e w1 ⟨rfl, hb⟩
  obtain ⟨r0, hb1, hs1⟩ := one_box hb
  have HR0 := bl.hid r0
  have HB1 := bl.hid hb1
  have k0 : w.heap.size < w1.heap.size := by omega
  clear hb r0 hb1
  go_wp2_with fail
  refine (HT.out _).mono ?_
  rintro e w' ⟨rfl, rfl⟩
  go_wp2_with fail
  refine (HFrd.out _).mono ?_
  rintro e w' ⟨rfl, rfl⟩
  have HW : Hid (∀ o1 o2 : Obj, ((w1.alloc o1).alloc o2).heap[w.heap.size]? = w1.heap[w.heap.size]?) := bl.hid fun o1 o2 => by rw [heap_alloc_old _ _ (by rw [World.size_alloc]; omega), heap_alloc_old _ _ k0]
  have HB2 : Hid (∀ o1 o2 : Obj, Below w.heap.size w ((w1.alloc o1).alloc o2)) := bl.hid fun o1 o2 => kt.below_more' (kt.below_more' HB1.out o1) o2
  go_wp2_with (refine wpList_store_row rfl 71 _ _ rfl w.heap.size #[.int .i64 k, .int .i64 xrd, .int .i64 0, .int .i64 0, .int .i64 im] rfl rfl 71 _ ((HW.out _ _).trans HR0.out) rv_info rfl (rv_one _ _ _ _ _) ?_)
  refine bodyPost_ret (results_cell_row rfl _ _ w.heap.size 71 _ (0, 0) _ rfl (setRow_heap _ _ _ _ _ _ ((HW.out _ _).trans HR0.out)) Tryz.underlying71 rfl rv_info) rfl ?_
  refine ⟨?_, (HB2.out _ _).trans ⟨rfl, rfl, rfl, by simp, fun k hk => setRow_other _ _ _ _ (by omega)⟩⟩
  unfold readRow
  rw [HN.out.1, HN.out.2.1, HN.out.2.2.1, HN.out.2.2.2]
set_option maxRecDepth 100000 in
set_option maxHeartbeats 1600000 in
theorem rreads_E (k : Nat) (h1 : k < 64) (h2 : 1 ≤ k) (hf : (rv.row k).form = ⟨#[69]⟩) (v : Int) (hv : 0 ≤ v ∧ v < 4294967296) (w : World) :
    Calls Tryz.prog 74 #[.int .i64 k, .int .u32 v] w fun e w' => e = .returned (.agg (readRow k (rv.numsK k v))) ∧ Below w.heap.size w w' := by
  have hs : rv.sh k = rv.shE := by unfold rv.sh; rw [hf]; rfl
  have hn : ∀ q, rv.numsK k v q = 0 := fun q => by unfold rv.numsK; rw [hs]; rfl
  have n1 := hn 1
  have n2 := hn 2
  have n3 := hn 3
  have n4 := hn 4
  have HT := bl.hid (fun w => rtold_E v hv w)
  obtain ⟨im, him⟩ : ∃ z, rf.toldV 69 v = z := ⟨_, rfl⟩
  have h4 : rv.numsK k v 4 = im := by rw [← him, n4]; rfl
  rw [him] at HT
  have HN := bl.hid (And.intro n1 (And.intro n2 (And.intro n3 h4)))
  have HA := fun w => rrow_ok k w h2 h1
  unfold rv.cells at HA
  rw [hf] at HA
  obtain ⟨ra, ea⟩ : ∃ z, (rv.row k).a = z := ⟨_, rfl⟩
  obtain ⟨rb, eb⟩ : ∃ z, (rv.row k).b = z := ⟨_, rfl⟩
  obtain ⟨rc, ec⟩ : ∃ z, (rv.row k).c = z := ⟨_, rfl⟩
  obtain ⟨nm, en⟩ : ∃ z, (rv.row k).name = z := ⟨_, rfl⟩
  rw [ea, eb, ec, en] at HA
  have HRow := bl.hid HA
  clear HA ea eb ec en hf hs hn n1 n2 n3 n4 h4 him hv
  go_enter Tryz.func74, Tryz.ntmps74
  go_wp2_with fail
  refine (HRow.out _).mono ?_
  rintro e w1 ⟨rfl, hb⟩
  obtain ⟨r0, hb1, hs1⟩ := one_box hb
  have HR0 := bl.hid r0
  have HB1 := bl.hid hb1
  have k0 : w.heap.size < w1.heap.size := by omega
  clear hb r0 hb1
  go_wp2_with fail
  refine (HT.out _).mono ?_
  rintro e w' ⟨rfl, rfl⟩
  have HW : Hid (∀ o1 o2 : Obj, ((w1.alloc o1).alloc o2).heap[w.heap.size]? = w1.heap[w.heap.size]?) := bl.hid fun o1 o2 => by rw [heap_alloc_old _ _ (by rw [World.size_alloc]; omega), heap_alloc_old _ _ k0]
  have HB2 : Hid (∀ o1 o2 : Obj, Below w.heap.size w ((w1.alloc o1).alloc o2)) := bl.hid fun o1 o2 => kt.below_more' (kt.below_more' HB1.out o1) o2
  go_wp2_with (refine wpList_store_row rfl 71 _ _ rfl w.heap.size #[.int .i64 k, .int .i64 0, .int .i64 0, .int .i64 0, .int .i64 im] rfl rfl 71 _ ((HW.out _ _).trans HR0.out) rv_info rfl (rv_one _ _ _ _ _) ?_)
  refine bodyPost_ret (results_cell_row rfl _ _ w.heap.size 71 _ (0, 0) _ rfl (setRow_heap _ _ _ _ _ _ ((HW.out _ _).trans HR0.out)) Tryz.underlying71 rfl rv_info) rfl ?_
  refine ⟨?_, (HB2.out _ _).trans ⟨rfl, rfl, rfl, by simp, fun k hk => setRow_other _ _ _ _ (by omega)⟩⟩
  unfold readRow
  rw [HN.out.1, HN.out.2.1, HN.out.2.2.1, HN.out.2.2.2]
end Go.Proofs.YtjjkocklpcdbkaaGreat
namespace Go.Proofs.YtjjkocklpcdbkaaGreat
open Go.RowKit
set_option linter.unusedVariables false
set_option maxRecDepth 100000
theorem rreads_any (k : Nat) (h1 : k < 64) (h2 : 1 ≤ k) (v : Int) (hv : 0 ≤ v ∧ v < 4294967296) (w : World) :
    Calls Tryz.prog 74 #[.int .i64 k, .int .u32 v] w fun e w' => e = .returned (.agg (readRow k (rv.numsK k v))) ∧ Below w.heap.size w w' := by
  rcases rv.form_cases k h1 h2 with h | h | h | h | h | h | h | h | h
  · exact rreads_R k h1 h2 h v hv w
  · exact rreads_I k h1 h2 h v hv w
  · exact rreads_X k h1 h2 h v hv w
  · exact rreads_Y k h1 h2 h v hv w
  · exact rreads_S k h1 h2 h v hv w
  · exact rreads_B k h1 h2 h v hv w
  · exact rreads_U k h1 h2 h v hv w
  · exact rreads_J k h1 h2 h v hv w
  · exact rreads_E k h1 h2 h v hv w
theorem rencode_any (op rd rs1 rs2 im : Int) (w : World) :
    Calls Tryz.prog 75 #[.agg #[.int .i64 op, .int .i64 rd, .int .i64 rs1, .int .i64 rs2, .int .i64 im]] w fun e w' => e = .returned (.tuple #[.int .u32 (rv.encI op rd rs1 rs2 im), .int .i64 (rv.chkI op rd rs1 rs2 im)]) ∧ Below w.heap.size w w' := by
  by_cases hc : rv.chkI op rd rs1 rs2 im = 0
  · obtain ⟨h1, h2⟩ := rv.chk_is _ _ _ _ _ hc
    obtain ⟨k, rfl⟩ : ∃ k : Nat, op = k := ⟨op.toNat, by omega⟩
    have e : rv.encI k rd rs1 rs2 im = rv.wordK k rd rs1 rs2 im := by unfold rv.encI; rw [if_pos hc, Int.toNat_natCast]
    have hs := (rv.chkI_nat k (by omega) (by omega) rd rs1 rs2 im).mp hc
    rw [hc, e]
    rcases rv.form_cases k (by omega) (by omega) with h | h | h | h | h | h | h | h | h
    · exact rencode_R k (by omega) (by omega) h _ _ _ _ hs w
    · exact rencode_I k (by omega) (by omega) h _ _ _ _ hs w
    · exact rencode_X k (by omega) (by omega) h _ _ _ _ hs w
    · exact rencode_Y k (by omega) (by omega) h _ _ _ _ hs w
    · exact rencode_S k (by omega) (by omega) h _ _ _ _ hs w
    · exact rencode_B k (by omega) (by omega) h _ _ _ _ hs w
    · exact rencode_U k (by omega) (by omega) h _ _ _ _ hs w
    · exact rencode_J k (by omega) (by omega) h _ _ _ _ hs w
    · exact rencode_E k (by omega) (by omega) h _ _ _ _ hs w
  · have HE : Hid (rv.encI op rd rs1 rs2 im = 0) := bl.hid (by unfold rv.encI; rw [if_neg hc])
    have HC := bl.hid (fun w => rcheck_any op rd rs1 rs2 im w)
    have hq2 : rv.chkI op rd rs1 rs2 im = 2 := by
      unfold rv.chkI at hc ⊢
      split
      · rename_i h
        rw [if_pos h] at hc
        unfold rv.chkR at hc ⊢
        split
        · rename_i h2
          rw [if_pos h2] at hc
          exact absurd rfl hc
        · rfl
      · rfl
    rw [hq2] at HC ⊢
    clear hc hq2
    go_enter Tryz.func75, Tryz.ntmps75
    go_wp2_with fail
    refine (HC.out _).mono ?_
    rintro e w1 ⟨rfl, hb⟩
    obtain ⟨r0, hb1, hs1⟩ := one_box hb
    have HB1 := bl.hid hb1
    clear hb r0 hb1
    go_wp2
    go_ret2
    exact ⟨by rw [HE.out]; rfl, HB1.out⟩
theorem hits_iff (v : Int) (hv : 0 ≤ v ∧ v < 4294967296) (k : Nat) (h1 : k < 64) (h2 : 1 ≤ k) : rv.hits v k = true ↔ (rv.chkI k (rv.numsK k v 1) (rv.numsK k v 2) (rv.numsK k v 3) (rv.numsK k v 4) = 0 ∧ rv.encI k (rv.numsK k v 1) (rv.numsK k v 2) (rv.numsK k v 3) (rv.numsK k v 4) = v) := by
  constructor
  · intro h
    obtain ⟨c, e⟩ := rv.hits_has k h1 h2 v h
    have hc := (rv.chkI_nat k h1 h2 _ _ _ _).mpr c
    refine ⟨hc, ?_⟩
    unfold rv.encI
    rw [if_pos hc, Int.toNat_natCast]
    exact e
  · rintro ⟨hc, e⟩
    unfold rv.encI at e
    rw [if_pos hc, Int.toNat_natCast] at e
    have := rv.hits_of k h1 h2 _ _ _ _ ((rv.chkI_nat k h1 h2 _ _ _ _).mp hc)
    rw [e] at this
    exact this
theorem hits_a (v : Int) (k : Nat) (h1 : k < 64) (h2 : 1 ≤ k) (h : rv.hits v k = true) : (rv.row k).a = v % 128 := by
  obtain ⟨c, e⟩ := rv.hits_has k h1 h2 v h
  have := (rv.has_any k h1 h2 _ _ _ _ c).a
  rw [e] at this
  exact this.symm
set_option maxRecDepth 100000 in
set_option maxHeartbeats 3200000 in
theorem rdecode_any (v : Int) (v0 : 0 ≤ v) (v1 : v < 4294967296) (w : World) :
    Calls Tryz.prog 53 #[.int .u32 v] w fun e w' => e = .returned (.tuple #[.agg (rv.decRow v), .int .i64 (rv.decE v)]) ∧ Below w.heap.size w w' := by
  go_enter Tryz.func53, Tryz.ntmps53
  go_wp2_with fail
  refine (refrows _).mono ?_
  rintro e w1 ⟨B, rfl, hB0, hB1, hR, hb⟩
  obtain ⟨r0, hb1, hs1⟩ := one_box hb
  have HR0 := bl.hid r0
  have HB1 := bl.hid hb1
  have HRB := bl.hid hR
  rw [World.size_alloc] at hB0
  clear hb r0 hb1 hR
  go_wp2
  go_loopw [5] (fun x wr => ∃ k : Nat, 1 ≤ k ∧ k ≤ 64 ∧ x = .int .i64 k ∧ (∀ i, 1 ≤ i → i < k → rv.hits v i = false) ∧ Below w1.heap.size w1 wr) (fun x _ => 64 - (intOf x).toNat)
  case atStart => exact ⟨1, by omega, by omega, rfl, fun i a b => by omega, Below.refl _ _⟩
  case round =>
    obtain ⟨k, hk1, hk, rfl, hno, hbw⟩ := hrel
    have hg0 := hbw.block w.heap.size (by omega)
    rw [HR0.out] at hg0
    have HG0 := bl.hid hg0
    have HRW : Hid (RefAt wr B) := bl.hid ⟨(hbw.block B hB1).trans HRB.out.h⟩
    have HNo := bl.hid hno
    have HBW := bl.hid hbw
    have hsw := hbw.size
    clear hg0 hno hbw
    by_cases hlt : k < 64
    · obtain ⟨j, rfl⟩ : ∃ j, k = j + 1 := ⟨k - 1, by omega⟩
      have HNext : Hid (rv.hits v (j + 1) = false → ∀ i, 1 ≤ i → i < j + 1 + 1 → rv.hits v i = false) := bl.hid fun hh i p q => by
        by_cases e : i = j + 1
        · rw [e]; exact hh
        · exact HNo.out i p (by omega)
      obtain ⟨-, -, c2, -, -⟩ := HRW.out.cells j (by omega)
      obtain ⟨a, ea⟩ : ∃ a, (rv.row (j + 1)).a = a := ⟨_, rfl⟩
      rw [ea] at c2
      have HA := bl.hid ea
      clear ea
      have lB : B < wr.heap.size := by omega
      obtain ⟨x, hx⟩ : ∃ x : Int, ((j + 1 : Nat) : Int) = x := ⟨_, rfl⟩
      have HRead := bl.hid (fun w => rreads_any (j + 1) (by omega) (by omega) v ⟨v0, v1⟩ w)
      have HEnc := bl.hid (fun a b c d w => rencode_any ((j + 1 : Nat) : Int) a b c d w)
      have HHit := bl.hid (hits_iff v ⟨v0, v1⟩ (j + 1) (by omega) (by omega))
      rw [hx] at HRead HEnc HHit ⊢
      have hxj : (x - 1).toNat = j := by omega
      have x0 : 1 ≤ x := by omega
      have x1 : x ≤ 63 := by omega
      have HX := bl.hid hx
      clear hx
      by_cases ha : a = v % 128
      · have ha2 : (a != v % 128) = false := by simpa using ha
        clear ha
        unfold readRow at HRead
        obtain ⟨y1, e1⟩ : ∃ y, rv.numsK (j + 1) v 1 = y := ⟨_, rfl⟩
        obtain ⟨y2, e2⟩ : ∃ y, rv.numsK (j + 1) v 2 = y := ⟨_, rfl⟩
        obtain ⟨y3, e3⟩ : ∃ y, rv.numsK (j + 1) v 3 = y := ⟨_, rfl⟩
        obtain ⟨y4, e4⟩ : ∃ y, rv.numsK (j + 1) v 4 = y := ⟨_, rfl⟩
        rw [e1, e2, e3, e4] at HRead HHit
        have HN4 := bl.hid (And.intro e1 (And.intro e2 (And.intro e3 e4)))
        have HE := bl.hid (HEnc.out y1 y2 y3 y4)
        obtain ⟨q, hq⟩ : ∃ q, rv.chkI x y1 y2 y3 y4 = q := ⟨_, rfl⟩
        obtain ⟨g, hg⟩ : ∃ g, rv.encI x y1 y2 y3 y4 = g := ⟨_, rfl⟩
        rw [hq, hg] at HE HHit
        clear e1 e2 e3 e4 hq hg HEnc
        go_wp2_with fail
        refine (HRead.out _).mono ?_
        rintro e w2 ⟨rfl, hb⟩
        have HB2 := bl.hid (HBW.out.trans (hb.mono hsw))
        have hs2 := hb.size
        clear hb c2
        go_wp2_with fail
        refine (HE.out _).mono ?_
        rintro e w3 ⟨rfl, hb⟩
        obtain ⟨rx, hb3, hs3⟩ := one_box hb
        have HB3 : Hid (Below w1.heap.size w1 w3) := bl.hid (HB2.out.trans (hb3.mono (by omega)))
        have hg3 : w3.heap[w.heap.size]? = w1.heap[w.heap.size]? := HB3.out.block _ (by omega)
        rw [HR0.out] at hg3
        have HG3 := bl.hid hg3
        have HRX := bl.hid rx
        have l3 : w2.heap.size < w3.heap.size := by omega
        have l4 : w.heap.size < w3.heap.size := by omega
        obtain ⟨d0, d1, d2, d3, d4⟩ := RvAt.of_box rx
        clear hb hb3 hg3 rx
        by_cases hh : q = 0 ∧ g = v
        · obtain ⟨rfl, hgv⟩ := hh
          have HO : Hid (rv.opOf v = j + 1) := bl.hid (rv.opOf_eq v (j + 1) (by omega) (by omega) (HHit.out.mpr ⟨rfl, hgv⟩) HNo.out)
          have hgv2 : (g == v) = true := by simpa using hgv
          clear hgv
          go_wp2_with (refine wpList_store_row rfl 71 _ _ rfl w.heap.size #[.int .i64 x, .int .i64 y1, .int .i64 y2, .int .i64 y3, .int .i64 y4] rfl rfl 71 _ HG3.out rv_info rfl (rv_one _ _ _ _ _) ?_)
          refine bodyPost_ret (kt.results_row_tmp rfl _ _ w.heap.size 71 _ (0, 0) _ rfl (setRow_heap _ _ _ _ _ _ HG3.out) Tryz.underlying71 rfl rv_info) rfl ?_
          have hbe : Below w.heap.size w w3 := HB1.out.trans (HB3.out.mono (by omega))
          refine ⟨?_, hbe.trans ⟨rfl, rfl, rfl, by simp, fun k hk => setRow_other _ _ _ _ (by omega)⟩⟩
          unfold rv.decRow rv.decE
          rw [HO.out, if_pos hlt, if_pos hlt]
          unfold readRow
          rw [HN4.out.1, HN4.out.2.1, HN4.out.2.2.1, HN4.out.2.2.2, HX.out]
          rfl
        · have HN := bl.hid (HNext.out (by
            cases h2 : rv.hits v (j + 1)
            · rfl
            · exact absurd (HHit.out.mp h2) hh))
          by_cases hq : q = 0
          · have hgv : (g == v) = false := by cases h2 : g == v with | false => rfl | true => exact absurd ⟨hq, by simpa using h2⟩ hh
            subst hq
            clear hh
            go_wp2
            exact ⟨⟨j + 1 + 1, by omega, by omega, by have := HX.out; go_num, HN.out, HB3.out⟩, by have := HX.out; simp [intOf]; omega⟩
          · have hq2 : (q == 0) = false := by simpa using hq
            clear hh hq
            go_wp2
            exact ⟨⟨j + 1 + 1, by omega, by omega, by have := HX.out; go_num, HN.out, HB3.out⟩, by have := HX.out; simp [intOf]; omega⟩
      · have ha2 : (a != v % 128) = true := by simpa using ha
        have HN := bl.hid (HNext.out (by
          cases hh : rv.hits v (j + 1)
          · rfl
          · exact absurd (HA.out.symm.trans (hits_a v (j + 1) (by omega) (by omega) hh)) ha))
        clear ha
        go_wp2
        exact ⟨⟨j + 1 + 1, by omega, by omega, by have := HX.out; go_num, HN.out, HBW.out⟩, by have := HX.out; simp [intOf]; omega⟩
    · obtain rfl : k = 64 := by omega
      have HN : Hid (rv.opOf v = 64) := bl.hid (rv.opOf_none v HNo.out)
      have HBE : Hid (Below w.heap.size w wr) := bl.hid (HB1.out.trans (HBW.out.mono (by omega)))
      go_wp2_with (refine wpList_store_row rfl 71 _ _ rfl w.heap.size #[.int .i64 0, .int .i64 0, .int .i64 0, .int .i64 0, .int .i64 0] rfl rfl 71 _ HG0.out rv_info rfl (rv_one _ _ _ _ _) ?_)
      refine bodyPost_ret (kt.results_row_tmp rfl _ _ w.heap.size 71 _ (0, 0) _ rfl (setRow_heap _ _ _ _ _ _ HG0.out) Tryz.underlying71 rfl rv_info) rfl ?_
      refine ⟨?_, HBE.out.trans ⟨rfl, rfl, rfl, by simp, fun k hk => setRow_other _ _ _ _ (by omega)⟩⟩
      unfold rv.decRow rv.decE
      rw [HN.out]
      rfl
end Go.Proofs.YtjjkocklpcdbkaaGreat
