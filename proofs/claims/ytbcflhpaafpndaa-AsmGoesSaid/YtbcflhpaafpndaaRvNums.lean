/- What read reads, in plain numbers. -/
import Derived.Test.YtbcflhpaafpndaaRvPl
namespace Go.Proofs.Ytbcflhpaafpndaa
open Go.RowKit
set_option linter.unusedVariables false
namespace rv
theorem nums3 (v lo : Int) (f g h : Fld) (k : Nat) : nums v lo [f, g, h] k = if k = h.k then fin v lo h else if k = g.k then fin v lo g else if k = f.k then fin v lo f else 0 := rfl
theorem nums2 (v lo : Int) (f g : Fld) (k : Nat) : nums v lo [f, g] k = if k = g.k then fin v lo g else if k = f.k then fin v lo f else 0 := rfl
theorem acc_def (v : Int) (ps : List (Int × Int × Int)) : acc v ps = ps.foldl (stp v) 0 := rfl
theorem stp_int (i k u : Nat) (v x I K U : Int) (hI : I = 2 ^ i) (hK : K = 2 ^ k) (hU : U = 2 ^ u) (hv0 : 0 ≤ v) (hv : v < 4294967296) (hx0 : 0 ≤ x) (hx : x < 2097152) (hk : k ≤ 20) (hi : k + i ≤ 21) (h : x / I % K = 0) :
    stp v x ((i : Int), (k : Int), (u : Int)) = x + v / U % K * I := by
  obtain ⟨v, rfl⟩ := Int.eq_ofNat_of_zero_le hv0
  obtain ⟨x, rfl⟩ := Int.eq_ofNat_of_zero_le hx0
  rw [stp_nat v x u k i (by omega) (by omega) hk hi]
  have hm : v / 2 ^ u % 2 ^ k < 2 ^ k := Nat.mod_lt _ (Nat.two_pow_pos k)
  have hc : ((2 : Int) ^ k) = ((2 ^ k : Nat) : Int) := by simp
  have h0 := or_int i k (x : Int) ((v / 2 ^ u % 2 ^ k : Nat) : Int) I K hI hK (by omega) (by omega) (by rw [hK, hc]; exact Int.ofNat_lt.mpr hm) h
  have e1 : (((v / 2 ^ u % 2 ^ k : Nat) : Int) * I) = ((v / 2 ^ u % 2 ^ k * 2 ^ i : Nat) : Int) := by rw [hI]; simp
  rw [e1, Int.toNat_natCast, Int.toNat_natCast] at h0
  rw [h0, hU, hK, hI]
  simp
theorem acc_rd (v : Int) (h0 : 0 ≤ v) (h1 : v < 4294967296) : acc v [(0, 5, 7)] = v / 128 % 32 := by
  obtain ⟨x0, hx0⟩ : ∃ x, v / 128 % 32 = x := ⟨_, rfl⟩
  have b0 : 0 ≤ x0 ∧ x0 < 32 := by rw [← hx0]; exact ⟨Int.emod_nonneg _ (by omega), Int.emod_lt_of_pos _ (by omega)⟩
  rw [hx0]
  rw [acc_def, List.foldl_cons, List.foldl_nil]
  have s0 : stp v (0) (0, 5, 7) = 0 + x0 * 1 := by
    have := stp_int 0 5 7 v (0) 1 32 128 rfl rfl rfl h0 h1 (by omega) (by omega) (by omega) (by omega) (ext _ 0 0 0 1 32 (by omega) (by omega) (by omega) (by omega) (by omega) (by omega))
    rw [hx0] at this
    exact this
  rw [s0]
  omega
theorem acc_rs1 (v : Int) (h0 : 0 ≤ v) (h1 : v < 4294967296) : acc v [(0, 5, 15)] = v / 32768 % 32 := by
  obtain ⟨x0, hx0⟩ : ∃ x, v / 32768 % 32 = x := ⟨_, rfl⟩
  have b0 : 0 ≤ x0 ∧ x0 < 32 := by rw [← hx0]; exact ⟨Int.emod_nonneg _ (by omega), Int.emod_lt_of_pos _ (by omega)⟩
  rw [hx0]
  rw [acc_def, List.foldl_cons, List.foldl_nil]
  have s0 : stp v (0) (0, 5, 15) = 0 + x0 * 1 := by
    have := stp_int 0 5 15 v (0) 1 32 32768 rfl rfl rfl h0 h1 (by omega) (by omega) (by omega) (by omega) (ext _ 0 0 0 1 32 (by omega) (by omega) (by omega) (by omega) (by omega) (by omega))
    rw [hx0] at this
    exact this
  rw [s0]
  omega
theorem acc_rs2 (v : Int) (h0 : 0 ≤ v) (h1 : v < 4294967296) : acc v [(0, 5, 20)] = v / 1048576 % 32 := by
  obtain ⟨x0, hx0⟩ : ∃ x, v / 1048576 % 32 = x := ⟨_, rfl⟩
  have b0 : 0 ≤ x0 ∧ x0 < 32 := by rw [← hx0]; exact ⟨Int.emod_nonneg _ (by omega), Int.emod_lt_of_pos _ (by omega)⟩
  rw [hx0]
  rw [acc_def, List.foldl_cons, List.foldl_nil]
  have s0 : stp v (0) (0, 5, 20) = 0 + x0 * 1 := by
    have := stp_int 0 5 20 v (0) 1 32 1048576 rfl rfl rfl h0 h1 (by omega) (by omega) (by omega) (by omega) (ext _ 0 0 0 1 32 (by omega) (by omega) (by omega) (by omega) (by omega) (by omega))
    rw [hx0] at this
    exact this
  rw [s0]
  omega
theorem fin_rd (lo v : Int) (h0 : 0 ≤ v) (h1 : v < 4294967296) : fin v lo fd = v / 128 % 32 := by
  unfold fin fd
  dsimp only
  rw [if_neg (by omega), acc_rd v h0 h1]
theorem fin_rs1 (lo v : Int) (h0 : 0 ≤ v) (h1 : v < 4294967296) : fin v lo fs1 = v / 32768 % 32 := by
  unfold fin fs1
  dsimp only
  rw [if_neg (by omega), acc_rs1 v h0 h1]
theorem fin_rs2 (lo v : Int) (h0 : 0 ≤ v) (h1 : v < 4294967296) : fin v lo fs2 = v / 1048576 % 32 := by
  unfold fin fs2
  dsimp only
  rw [if_neg (by omega), acc_rs2 v h0 h1]
theorem nums_R (v : Int) (h0 : 0 ≤ v) (h1 : v < 4294967296) : nums v shR.low shR.fs 1 = v / 128 % 32 ∧ nums v shR.low shR.fs 2 = v / 32768 % 32 ∧ nums v shR.low shR.fs 3 = v / 1048576 % 32 ∧ nums v shR.low shR.fs 4 = 0 := by
  refine ⟨?_, ?_, ?_, ?_⟩
  · show nums v (0) [fd, fs1, fs2] 1 = _
    rw [nums3, if_neg (by decide), if_neg (by decide), if_pos (by decide)]
    exact fin_rd _ v h0 h1
  · show nums v (0) [fd, fs1, fs2] 2 = _
    rw [nums3, if_neg (by decide), if_pos (by decide)]
    exact fin_rs1 _ v h0 h1
  · show nums v (0) [fd, fs1, fs2] 3 = _
    rw [nums3, if_pos (by decide)]
    exact fin_rs2 _ v h0 h1
  · show nums v (0) [fd, fs1, fs2] 4 = _
    rw [nums3, if_neg (by decide), if_neg (by decide), if_neg (by decide)]
theorem acc_I (v : Int) (h0 : 0 ≤ v) (h1 : v < 4294967296) : acc v [(0, 12, 20)] = v / 1048576 % 4096 := by
  obtain ⟨x0, hx0⟩ : ∃ x, v / 1048576 % 4096 = x := ⟨_, rfl⟩
  have b0 : 0 ≤ x0 ∧ x0 < 4096 := by rw [← hx0]; exact ⟨Int.emod_nonneg _ (by omega), Int.emod_lt_of_pos _ (by omega)⟩
  rw [hx0]
  rw [acc_def, List.foldl_cons, List.foldl_nil]
  have s0 : stp v (0) (0, 12, 20) = 0 + x0 * 1 := by
    have := stp_int 0 12 20 v (0) 1 4096 1048576 rfl rfl rfl h0 h1 (by omega) (by omega) (by omega) (by omega) (ext _ 0 0 0 1 4096 (by omega) (by omega) (by omega) (by omega) (by omega) (by omega))
    rw [hx0] at this
    exact this
  rw [s0]
  omega
theorem fin_I (v : Int) (h0 : 0 ≤ v) (h1 : v < 4294967296) : fin v (-2048) ⟨4, [(0, 12, 20)]⟩ = (if (v / 1048576 % 4096) / 2048 = 1 then v / 1048576 % 4096 - 4096 else v / 1048576 % 4096) := by
  have ht : top [(0, 12, 20)] = 12 := by decide
  unfold fin
  dsimp only
  rw [ht, acc_I v h0 h1]
  obtain ⟨x0, hx0⟩ : ∃ x, v / 1048576 % 4096 = x := ⟨_, rfl⟩
  have b0 : 0 ≤ x0 ∧ x0 < 4096 := by rw [← hx0]; exact ⟨Int.emod_nonneg _ (by omega), Int.emod_lt_of_pos _ (by omega)⟩
  rw [hx0]
  clear hx0 h0 h1 ht
  have e1 : (2 : Int) ^ ((12 : Int) - 1).toNat = 2048 := by decide
  have e2 : wrap64 ((2 : Int) ^ ((12 : Int)).toNat) = 4096 := IntWalk.wrap64_in _ (by decide)
  rw [e1, e2]
  have e3 : wrap64 (x0 - 4096) = x0 - 4096 := IntWalk.wrap64_in _ (by omega)
  rw [e3]
  by_cases hs : (x0) / 2048 = 1
  · rw [if_pos ⟨rfl, by decide, hs⟩, if_pos hs]
  · rw [if_neg (fun h => hs h.2.2), if_neg hs]
theorem nums_I (v : Int) (h0 : 0 ≤ v) (h1 : v < 4294967296) : nums v shI.low shI.fs 1 = v / 128 % 32 ∧ nums v shI.low shI.fs 2 = v / 32768 % 32 ∧ nums v shI.low shI.fs 3 = 0 ∧ nums v shI.low shI.fs 4 = (if (v / 1048576 % 4096) / 2048 = 1 then v / 1048576 % 4096 - 4096 else v / 1048576 % 4096) := by
  refine ⟨?_, ?_, ?_, ?_⟩
  · show nums v (-2048) [fd, fs1, ⟨4, [(0, 12, 20)]⟩] 1 = _
    rw [nums3, if_neg (by decide), if_neg (by decide), if_pos (by decide)]
    exact fin_rd _ v h0 h1
  · show nums v (-2048) [fd, fs1, ⟨4, [(0, 12, 20)]⟩] 2 = _
    rw [nums3, if_neg (by decide), if_pos (by decide)]
    exact fin_rs1 _ v h0 h1
  · show nums v (-2048) [fd, fs1, ⟨4, [(0, 12, 20)]⟩] 3 = _
    rw [nums3, if_neg (by decide), if_neg (by decide), if_neg (by decide)]
  · show nums v (-2048) [fd, fs1, ⟨4, [(0, 12, 20)]⟩] 4 = _
    rw [nums3, if_pos (by decide)]
    exact fin_I v h0 h1
theorem acc_X (v : Int) (h0 : 0 ≤ v) (h1 : v < 4294967296) : acc v [(0, 6, 20)] = v / 1048576 % 64 := by
  obtain ⟨x0, hx0⟩ : ∃ x, v / 1048576 % 64 = x := ⟨_, rfl⟩
  have b0 : 0 ≤ x0 ∧ x0 < 64 := by rw [← hx0]; exact ⟨Int.emod_nonneg _ (by omega), Int.emod_lt_of_pos _ (by omega)⟩
  rw [hx0]
  rw [acc_def, List.foldl_cons, List.foldl_nil]
  have s0 : stp v (0) (0, 6, 20) = 0 + x0 * 1 := by
    have := stp_int 0 6 20 v (0) 1 64 1048576 rfl rfl rfl h0 h1 (by omega) (by omega) (by omega) (by omega) (ext _ 0 0 0 1 64 (by omega) (by omega) (by omega) (by omega) (by omega) (by omega))
    rw [hx0] at this
    exact this
  rw [s0]
  omega
theorem fin_X (v : Int) (h0 : 0 ≤ v) (h1 : v < 4294967296) : fin v 0 ⟨4, [(0, 6, 20)]⟩ = v / 1048576 % 64 := by
  unfold fin
  dsimp only
  rw [if_neg (by omega), acc_X v h0 h1]
theorem nums_X (v : Int) (h0 : 0 ≤ v) (h1 : v < 4294967296) : nums v shX.low shX.fs 1 = v / 128 % 32 ∧ nums v shX.low shX.fs 2 = v / 32768 % 32 ∧ nums v shX.low shX.fs 3 = 0 ∧ nums v shX.low shX.fs 4 = v / 1048576 % 64 := by
  refine ⟨?_, ?_, ?_, ?_⟩
  · show nums v (0) [fd, fs1, ⟨4, [(0, 6, 20)]⟩] 1 = _
    rw [nums3, if_neg (by decide), if_neg (by decide), if_pos (by decide)]
    exact fin_rd _ v h0 h1
  · show nums v (0) [fd, fs1, ⟨4, [(0, 6, 20)]⟩] 2 = _
    rw [nums3, if_neg (by decide), if_pos (by decide)]
    exact fin_rs1 _ v h0 h1
  · show nums v (0) [fd, fs1, ⟨4, [(0, 6, 20)]⟩] 3 = _
    rw [nums3, if_neg (by decide), if_neg (by decide), if_neg (by decide)]
  · show nums v (0) [fd, fs1, ⟨4, [(0, 6, 20)]⟩] 4 = _
    rw [nums3, if_pos (by decide)]
    exact fin_X v h0 h1
theorem acc_Y (v : Int) (h0 : 0 ≤ v) (h1 : v < 4294967296) : acc v [(0, 5, 20)] = v / 1048576 % 32 := by
  obtain ⟨x0, hx0⟩ : ∃ x, v / 1048576 % 32 = x := ⟨_, rfl⟩
  have b0 : 0 ≤ x0 ∧ x0 < 32 := by rw [← hx0]; exact ⟨Int.emod_nonneg _ (by omega), Int.emod_lt_of_pos _ (by omega)⟩
  rw [hx0]
  rw [acc_def, List.foldl_cons, List.foldl_nil]
  have s0 : stp v (0) (0, 5, 20) = 0 + x0 * 1 := by
    have := stp_int 0 5 20 v (0) 1 32 1048576 rfl rfl rfl h0 h1 (by omega) (by omega) (by omega) (by omega) (ext _ 0 0 0 1 32 (by omega) (by omega) (by omega) (by omega) (by omega) (by omega))
    rw [hx0] at this
    exact this
  rw [s0]
  omega
theorem fin_Y (v : Int) (h0 : 0 ≤ v) (h1 : v < 4294967296) : fin v 0 ⟨4, [(0, 5, 20)]⟩ = v / 1048576 % 32 := by
  unfold fin
  dsimp only
  rw [if_neg (by omega), acc_Y v h0 h1]
theorem nums_Y (v : Int) (h0 : 0 ≤ v) (h1 : v < 4294967296) : nums v shY.low shY.fs 1 = v / 128 % 32 ∧ nums v shY.low shY.fs 2 = v / 32768 % 32 ∧ nums v shY.low shY.fs 3 = 0 ∧ nums v shY.low shY.fs 4 = v / 1048576 % 32 := by
  refine ⟨?_, ?_, ?_, ?_⟩
  · show nums v (0) [fd, fs1, ⟨4, [(0, 5, 20)]⟩] 1 = _
    rw [nums3, if_neg (by decide), if_neg (by decide), if_pos (by decide)]
    exact fin_rd _ v h0 h1
  · show nums v (0) [fd, fs1, ⟨4, [(0, 5, 20)]⟩] 2 = _
    rw [nums3, if_neg (by decide), if_pos (by decide)]
    exact fin_rs1 _ v h0 h1
  · show nums v (0) [fd, fs1, ⟨4, [(0, 5, 20)]⟩] 3 = _
    rw [nums3, if_neg (by decide), if_neg (by decide), if_neg (by decide)]
  · show nums v (0) [fd, fs1, ⟨4, [(0, 5, 20)]⟩] 4 = _
    rw [nums3, if_pos (by decide)]
    exact fin_Y v h0 h1
theorem acc_S (v : Int) (h0 : 0 ≤ v) (h1 : v < 4294967296) : acc v [(0, 5, 7), (5, 7, 25)] = v / 128 % 32 + v / 33554432 % 128 * 32 := by
  obtain ⟨x0, hx0⟩ : ∃ x, v / 128 % 32 = x := ⟨_, rfl⟩
  have b0 : 0 ≤ x0 ∧ x0 < 32 := by rw [← hx0]; exact ⟨Int.emod_nonneg _ (by omega), Int.emod_lt_of_pos _ (by omega)⟩
  obtain ⟨x1, hx1⟩ : ∃ x, v / 33554432 % 128 = x := ⟨_, rfl⟩
  have b1 : 0 ≤ x1 ∧ x1 < 128 := by rw [← hx1]; exact ⟨Int.emod_nonneg _ (by omega), Int.emod_lt_of_pos _ (by omega)⟩
  rw [hx0, hx1]
  rw [acc_def, List.foldl_cons, List.foldl_cons, List.foldl_nil]
  have s0 : stp v (0) (0, 5, 7) = 0 + x0 * 1 := by
    have := stp_int 0 5 7 v (0) 1 32 128 rfl rfl rfl h0 h1 (by omega) (by omega) (by omega) (by omega) (ext _ 0 0 0 1 32 (by omega) (by omega) (by omega) (by omega) (by omega) (by omega))
    rw [hx0] at this
    exact this
  have s1 : stp v (0 + x0 * 1) (5, 7, 25) = 0 + x0 * 1 + x1 * 32 := by
    have := stp_int 5 7 25 v (0 + x0 * 1) 32 128 33554432 rfl rfl rfl h0 h1 (by omega) (by omega) (by omega) (by omega) (ext _ (x0) 0 0 32 128 (by omega) (by omega) (by omega) (by omega) (by omega) (by omega))
    rw [hx1] at this
    exact this
  rw [s0, s1]
  omega
theorem fin_S (v : Int) (h0 : 0 ≤ v) (h1 : v < 4294967296) : fin v (-2048) ⟨4, [(0, 5, 7), (5, 7, 25)]⟩ = (if (v / 128 % 32 + v / 33554432 % 128 * 32) / 2048 = 1 then v / 128 % 32 + v / 33554432 % 128 * 32 - 4096 else v / 128 % 32 + v / 33554432 % 128 * 32) := by
  have ht : top [(0, 5, 7), (5, 7, 25)] = 12 := by decide
  unfold fin
  dsimp only
  rw [ht, acc_S v h0 h1]
  obtain ⟨x0, hx0⟩ : ∃ x, v / 128 % 32 = x := ⟨_, rfl⟩
  have b0 : 0 ≤ x0 ∧ x0 < 32 := by rw [← hx0]; exact ⟨Int.emod_nonneg _ (by omega), Int.emod_lt_of_pos _ (by omega)⟩
  obtain ⟨x1, hx1⟩ : ∃ x, v / 33554432 % 128 = x := ⟨_, rfl⟩
  have b1 : 0 ≤ x1 ∧ x1 < 128 := by rw [← hx1]; exact ⟨Int.emod_nonneg _ (by omega), Int.emod_lt_of_pos _ (by omega)⟩
  rw [hx0, hx1]
  clear hx0 hx1 h0 h1 ht
  have e1 : (2 : Int) ^ ((12 : Int) - 1).toNat = 2048 := by decide
  have e2 : wrap64 ((2 : Int) ^ ((12 : Int)).toNat) = 4096 := IntWalk.wrap64_in _ (by decide)
  rw [e1, e2]
  have e3 : wrap64 (x0 + x1 * 32 - 4096) = x0 + x1 * 32 - 4096 := IntWalk.wrap64_in _ (by omega)
  rw [e3]
  by_cases hs : (x0 + x1 * 32) / 2048 = 1
  · rw [if_pos ⟨rfl, by decide, hs⟩, if_pos hs]
  · rw [if_neg (fun h => hs h.2.2), if_neg hs]
theorem nums_S (v : Int) (h0 : 0 ≤ v) (h1 : v < 4294967296) : nums v shS.low shS.fs 1 = 0 ∧ nums v shS.low shS.fs 2 = v / 32768 % 32 ∧ nums v shS.low shS.fs 3 = v / 1048576 % 32 ∧ nums v shS.low shS.fs 4 = (if (v / 128 % 32 + v / 33554432 % 128 * 32) / 2048 = 1 then v / 128 % 32 + v / 33554432 % 128 * 32 - 4096 else v / 128 % 32 + v / 33554432 % 128 * 32) := by
  refine ⟨?_, ?_, ?_, ?_⟩
  · show nums v (-2048) [fs1, fs2, ⟨4, [(0, 5, 7), (5, 7, 25)]⟩] 1 = _
    rw [nums3, if_neg (by decide), if_neg (by decide), if_neg (by decide)]
  · show nums v (-2048) [fs1, fs2, ⟨4, [(0, 5, 7), (5, 7, 25)]⟩] 2 = _
    rw [nums3, if_neg (by decide), if_neg (by decide), if_pos (by decide)]
    exact fin_rs1 _ v h0 h1
  · show nums v (-2048) [fs1, fs2, ⟨4, [(0, 5, 7), (5, 7, 25)]⟩] 3 = _
    rw [nums3, if_neg (by decide), if_pos (by decide)]
    exact fin_rs2 _ v h0 h1
  · show nums v (-2048) [fs1, fs2, ⟨4, [(0, 5, 7), (5, 7, 25)]⟩] 4 = _
    rw [nums3, if_pos (by decide)]
    exact fin_S v h0 h1
theorem acc_B (v : Int) (h0 : 0 ≤ v) (h1 : v < 4294967296) : acc v [(11, 1, 7), (1, 4, 8), (5, 6, 25), (12, 1, 31)] = v / 128 % 2 * 2048 + v / 256 % 16 * 2 + v / 33554432 % 64 * 32 + v / 2147483648 % 2 * 4096 := by
  obtain ⟨x0, hx0⟩ : ∃ x, v / 128 % 2 = x := ⟨_, rfl⟩
  have b0 : 0 ≤ x0 ∧ x0 < 2 := by rw [← hx0]; exact ⟨Int.emod_nonneg _ (by omega), Int.emod_lt_of_pos _ (by omega)⟩
  obtain ⟨x1, hx1⟩ : ∃ x, v / 256 % 16 = x := ⟨_, rfl⟩
  have b1 : 0 ≤ x1 ∧ x1 < 16 := by rw [← hx1]; exact ⟨Int.emod_nonneg _ (by omega), Int.emod_lt_of_pos _ (by omega)⟩
  obtain ⟨x2, hx2⟩ : ∃ x, v / 33554432 % 64 = x := ⟨_, rfl⟩
  have b2 : 0 ≤ x2 ∧ x2 < 64 := by rw [← hx2]; exact ⟨Int.emod_nonneg _ (by omega), Int.emod_lt_of_pos _ (by omega)⟩
  obtain ⟨x3, hx3⟩ : ∃ x, v / 2147483648 % 2 = x := ⟨_, rfl⟩
  have b3 : 0 ≤ x3 ∧ x3 < 2 := by rw [← hx3]; exact ⟨Int.emod_nonneg _ (by omega), Int.emod_lt_of_pos _ (by omega)⟩
  rw [hx0, hx1, hx2, hx3]
  rw [acc_def, List.foldl_cons, List.foldl_cons, List.foldl_cons, List.foldl_cons, List.foldl_nil]
  have s0 : stp v (0) (11, 1, 7) = 0 + x0 * 2048 := by
    have := stp_int 11 1 7 v (0) 2048 2 128 rfl rfl rfl h0 h1 (by omega) (by omega) (by omega) (by omega) (ext _ 0 0 0 2048 2 (by omega) (by omega) (by omega) (by omega) (by omega) (by omega))
    rw [hx0] at this
    exact this
  have s1 : stp v (0 + x0 * 2048) (1, 4, 8) = 0 + x0 * 2048 + x1 * 2 := by
    have := stp_int 1 4 8 v (0 + x0 * 2048) 2 16 256 rfl rfl rfl h0 h1 (by omega) (by omega) (by omega) (by omega) (ext _ 0 0 (x0 * 64) 2 16 (by omega) (by omega) (by omega) (by omega) (by omega) (by omega))
    rw [hx1] at this
    exact this
  have s2 : stp v (0 + x0 * 2048 + x1 * 2) (5, 6, 25) = 0 + x0 * 2048 + x1 * 2 + x2 * 32 := by
    have := stp_int 5 6 25 v (0 + x0 * 2048 + x1 * 2) 32 64 33554432 rfl rfl rfl h0 h1 (by omega) (by omega) (by omega) (by omega) (ext _ (x1 * 2) 0 (x0) 32 64 (by omega) (by omega) (by omega) (by omega) (by omega) (by omega))
    rw [hx2] at this
    exact this
  have s3 : stp v (0 + x0 * 2048 + x1 * 2 + x2 * 32) (12, 1, 31) = 0 + x0 * 2048 + x1 * 2 + x2 * 32 + x3 * 4096 := by
    have := stp_int 12 1 31 v (0 + x0 * 2048 + x1 * 2 + x2 * 32) 4096 2 2147483648 rfl rfl rfl h0 h1 (by omega) (by omega) (by omega) (by omega) (ext _ (x0 * 2048 + x1 * 2 + x2 * 32) 0 0 4096 2 (by omega) (by omega) (by omega) (by omega) (by omega) (by omega))
    rw [hx3] at this
    exact this
  rw [s0, s1, s2, s3]
  omega
theorem fin_B (v : Int) (h0 : 0 ≤ v) (h1 : v < 4294967296) : fin v (-4096) ⟨4, [(11, 1, 7), (1, 4, 8), (5, 6, 25), (12, 1, 31)]⟩ = (if (v / 128 % 2 * 2048 + v / 256 % 16 * 2 + v / 33554432 % 64 * 32 + v / 2147483648 % 2 * 4096) / 4096 = 1 then v / 128 % 2 * 2048 + v / 256 % 16 * 2 + v / 33554432 % 64 * 32 + v / 2147483648 % 2 * 4096 - 8192 else v / 128 % 2 * 2048 + v / 256 % 16 * 2 + v / 33554432 % 64 * 32 + v / 2147483648 % 2 * 4096) := by
  have ht : top [(11, 1, 7), (1, 4, 8), (5, 6, 25), (12, 1, 31)] = 13 := by decide
  unfold fin
  dsimp only
  rw [ht, acc_B v h0 h1]
  obtain ⟨x0, hx0⟩ : ∃ x, v / 128 % 2 = x := ⟨_, rfl⟩
  have b0 : 0 ≤ x0 ∧ x0 < 2 := by rw [← hx0]; exact ⟨Int.emod_nonneg _ (by omega), Int.emod_lt_of_pos _ (by omega)⟩
  obtain ⟨x1, hx1⟩ : ∃ x, v / 256 % 16 = x := ⟨_, rfl⟩
  have b1 : 0 ≤ x1 ∧ x1 < 16 := by rw [← hx1]; exact ⟨Int.emod_nonneg _ (by omega), Int.emod_lt_of_pos _ (by omega)⟩
  obtain ⟨x2, hx2⟩ : ∃ x, v / 33554432 % 64 = x := ⟨_, rfl⟩
  have b2 : 0 ≤ x2 ∧ x2 < 64 := by rw [← hx2]; exact ⟨Int.emod_nonneg _ (by omega), Int.emod_lt_of_pos _ (by omega)⟩
  obtain ⟨x3, hx3⟩ : ∃ x, v / 2147483648 % 2 = x := ⟨_, rfl⟩
  have b3 : 0 ≤ x3 ∧ x3 < 2 := by rw [← hx3]; exact ⟨Int.emod_nonneg _ (by omega), Int.emod_lt_of_pos _ (by omega)⟩
  rw [hx0, hx1, hx2, hx3]
  clear hx0 hx1 hx2 hx3 h0 h1 ht
  have e1 : (2 : Int) ^ ((13 : Int) - 1).toNat = 4096 := by decide
  have e2 : wrap64 ((2 : Int) ^ ((13 : Int)).toNat) = 8192 := IntWalk.wrap64_in _ (by decide)
  rw [e1, e2]
  have e3 : wrap64 (x0 * 2048 + x1 * 2 + x2 * 32 + x3 * 4096 - 8192) = x0 * 2048 + x1 * 2 + x2 * 32 + x3 * 4096 - 8192 := IntWalk.wrap64_in _ (by omega)
  rw [e3]
  by_cases hs : (x0 * 2048 + x1 * 2 + x2 * 32 + x3 * 4096) / 4096 = 1
  · rw [if_pos ⟨rfl, by decide, hs⟩, if_pos hs]
  · rw [if_neg (fun h => hs h.2.2), if_neg hs]
theorem nums_B (v : Int) (h0 : 0 ≤ v) (h1 : v < 4294967296) : nums v shB.low shB.fs 1 = 0 ∧ nums v shB.low shB.fs 2 = v / 32768 % 32 ∧ nums v shB.low shB.fs 3 = v / 1048576 % 32 ∧ nums v shB.low shB.fs 4 = (if (v / 128 % 2 * 2048 + v / 256 % 16 * 2 + v / 33554432 % 64 * 32 + v / 2147483648 % 2 * 4096) / 4096 = 1 then v / 128 % 2 * 2048 + v / 256 % 16 * 2 + v / 33554432 % 64 * 32 + v / 2147483648 % 2 * 4096 - 8192 else v / 128 % 2 * 2048 + v / 256 % 16 * 2 + v / 33554432 % 64 * 32 + v / 2147483648 % 2 * 4096) := by
  refine ⟨?_, ?_, ?_, ?_⟩
  · show nums v (-4096) [fs1, fs2, ⟨4, [(11, 1, 7), (1, 4, 8), (5, 6, 25), (12, 1, 31)]⟩] 1 = _
    rw [nums3, if_neg (by decide), if_neg (by decide), if_neg (by decide)]
  · show nums v (-4096) [fs1, fs2, ⟨4, [(11, 1, 7), (1, 4, 8), (5, 6, 25), (12, 1, 31)]⟩] 2 = _
    rw [nums3, if_neg (by decide), if_neg (by decide), if_pos (by decide)]
    exact fin_rs1 _ v h0 h1
  · show nums v (-4096) [fs1, fs2, ⟨4, [(11, 1, 7), (1, 4, 8), (5, 6, 25), (12, 1, 31)]⟩] 3 = _
    rw [nums3, if_neg (by decide), if_pos (by decide)]
    exact fin_rs2 _ v h0 h1
  · show nums v (-4096) [fs1, fs2, ⟨4, [(11, 1, 7), (1, 4, 8), (5, 6, 25), (12, 1, 31)]⟩] 4 = _
    rw [nums3, if_pos (by decide)]
    exact fin_B v h0 h1
theorem acc_U (v : Int) (h0 : 0 ≤ v) (h1 : v < 4294967296) : acc v [(0, 20, 12)] = v / 4096 % 1048576 := by
  obtain ⟨x0, hx0⟩ : ∃ x, v / 4096 % 1048576 = x := ⟨_, rfl⟩
  have b0 : 0 ≤ x0 ∧ x0 < 1048576 := by rw [← hx0]; exact ⟨Int.emod_nonneg _ (by omega), Int.emod_lt_of_pos _ (by omega)⟩
  rw [hx0]
  rw [acc_def, List.foldl_cons, List.foldl_nil]
  have s0 : stp v (0) (0, 20, 12) = 0 + x0 * 1 := by
    have := stp_int 0 20 12 v (0) 1 1048576 4096 rfl rfl rfl h0 h1 (by omega) (by omega) (by omega) (by omega) (ext _ 0 0 0 1 1048576 (by omega) (by omega) (by omega) (by omega) (by omega) (by omega))
    rw [hx0] at this
    exact this
  rw [s0]
  omega
theorem fin_U (v : Int) (h0 : 0 ≤ v) (h1 : v < 4294967296) : fin v (-524288) ⟨4, [(0, 20, 12)]⟩ = (if (v / 4096 % 1048576) / 524288 = 1 then v / 4096 % 1048576 - 1048576 else v / 4096 % 1048576) := by
  have ht : top [(0, 20, 12)] = 20 := by decide
  unfold fin
  dsimp only
  rw [ht, acc_U v h0 h1]
  obtain ⟨x0, hx0⟩ : ∃ x, v / 4096 % 1048576 = x := ⟨_, rfl⟩
  have b0 : 0 ≤ x0 ∧ x0 < 1048576 := by rw [← hx0]; exact ⟨Int.emod_nonneg _ (by omega), Int.emod_lt_of_pos _ (by omega)⟩
  rw [hx0]
  clear hx0 h0 h1 ht
  have e1 : (2 : Int) ^ ((20 : Int) - 1).toNat = 524288 := by decide
  have e2 : wrap64 ((2 : Int) ^ ((20 : Int)).toNat) = 1048576 := IntWalk.wrap64_in _ (by decide)
  rw [e1, e2]
  have e3 : wrap64 (x0 - 1048576) = x0 - 1048576 := IntWalk.wrap64_in _ (by omega)
  rw [e3]
  by_cases hs : (x0) / 524288 = 1
  · rw [if_pos ⟨rfl, by decide, hs⟩, if_pos hs]
  · rw [if_neg (fun h => hs h.2.2), if_neg hs]
theorem nums_U (v : Int) (h0 : 0 ≤ v) (h1 : v < 4294967296) : nums v shU.low shU.fs 1 = v / 128 % 32 ∧ nums v shU.low shU.fs 2 = 0 ∧ nums v shU.low shU.fs 3 = 0 ∧ nums v shU.low shU.fs 4 = (if (v / 4096 % 1048576) / 524288 = 1 then v / 4096 % 1048576 - 1048576 else v / 4096 % 1048576) := by
  refine ⟨?_, ?_, ?_, ?_⟩
  · show nums v (-524288) [fd, ⟨4, [(0, 20, 12)]⟩] 1 = _
    rw [nums2, if_neg (by decide), if_pos (by decide)]
    exact fin_rd _ v h0 h1
  · show nums v (-524288) [fd, ⟨4, [(0, 20, 12)]⟩] 2 = _
    rw [nums2, if_neg (by decide), if_neg (by decide)]
  · show nums v (-524288) [fd, ⟨4, [(0, 20, 12)]⟩] 3 = _
    rw [nums2, if_neg (by decide), if_neg (by decide)]
  · show nums v (-524288) [fd, ⟨4, [(0, 20, 12)]⟩] 4 = _
    rw [nums2, if_pos (by decide)]
    exact fin_U v h0 h1
theorem acc_J (v : Int) (h0 : 0 ≤ v) (h1 : v < 4294967296) : acc v [(12, 8, 12), (11, 1, 20), (1, 10, 21), (20, 1, 31)] = v / 4096 % 256 * 4096 + v / 1048576 % 2 * 2048 + v / 2097152 % 1024 * 2 + v / 2147483648 % 2 * 1048576 := by
  obtain ⟨x0, hx0⟩ : ∃ x, v / 4096 % 256 = x := ⟨_, rfl⟩
  have b0 : 0 ≤ x0 ∧ x0 < 256 := by rw [← hx0]; exact ⟨Int.emod_nonneg _ (by omega), Int.emod_lt_of_pos _ (by omega)⟩
  obtain ⟨x1, hx1⟩ : ∃ x, v / 1048576 % 2 = x := ⟨_, rfl⟩
  have b1 : 0 ≤ x1 ∧ x1 < 2 := by rw [← hx1]; exact ⟨Int.emod_nonneg _ (by omega), Int.emod_lt_of_pos _ (by omega)⟩
  obtain ⟨x2, hx2⟩ : ∃ x, v / 2097152 % 1024 = x := ⟨_, rfl⟩
  have b2 : 0 ≤ x2 ∧ x2 < 1024 := by rw [← hx2]; exact ⟨Int.emod_nonneg _ (by omega), Int.emod_lt_of_pos _ (by omega)⟩
  obtain ⟨x3, hx3⟩ : ∃ x, v / 2147483648 % 2 = x := ⟨_, rfl⟩
  have b3 : 0 ≤ x3 ∧ x3 < 2 := by rw [← hx3]; exact ⟨Int.emod_nonneg _ (by omega), Int.emod_lt_of_pos _ (by omega)⟩
  rw [hx0, hx1, hx2, hx3]
  rw [acc_def, List.foldl_cons, List.foldl_cons, List.foldl_cons, List.foldl_cons, List.foldl_nil]
  have s0 : stp v (0) (12, 8, 12) = 0 + x0 * 4096 := by
    have := stp_int 12 8 12 v (0) 4096 256 4096 rfl rfl rfl h0 h1 (by omega) (by omega) (by omega) (by omega) (ext _ 0 0 0 4096 256 (by omega) (by omega) (by omega) (by omega) (by omega) (by omega))
    rw [hx0] at this
    exact this
  have s1 : stp v (0 + x0 * 4096) (11, 1, 20) = 0 + x0 * 4096 + x1 * 2048 := by
    have := stp_int 11 1 20 v (0 + x0 * 4096) 2048 2 1048576 rfl rfl rfl h0 h1 (by omega) (by omega) (by omega) (by omega) (ext _ 0 0 (x0) 2048 2 (by omega) (by omega) (by omega) (by omega) (by omega) (by omega))
    rw [hx1] at this
    exact this
  have s2 : stp v (0 + x0 * 4096 + x1 * 2048) (1, 10, 21) = 0 + x0 * 4096 + x1 * 2048 + x2 * 2 := by
    have := stp_int 1 10 21 v (0 + x0 * 4096 + x1 * 2048) 2 1024 2097152 rfl rfl rfl h0 h1 (by omega) (by omega) (by omega) (by omega) (ext _ 0 0 (x0 * 2 + x1) 2 1024 (by omega) (by omega) (by omega) (by omega) (by omega) (by omega))
    rw [hx2] at this
    exact this
  have s3 : stp v (0 + x0 * 4096 + x1 * 2048 + x2 * 2) (20, 1, 31) = 0 + x0 * 4096 + x1 * 2048 + x2 * 2 + x3 * 1048576 := by
    have := stp_int 20 1 31 v (0 + x0 * 4096 + x1 * 2048 + x2 * 2) 1048576 2 2147483648 rfl rfl rfl h0 h1 (by omega) (by omega) (by omega) (by omega) (ext _ (x0 * 4096 + x1 * 2048 + x2 * 2) 0 0 1048576 2 (by omega) (by omega) (by omega) (by omega) (by omega) (by omega))
    rw [hx3] at this
    exact this
  rw [s0, s1, s2, s3]
  omega
theorem fin_J (v : Int) (h0 : 0 ≤ v) (h1 : v < 4294967296) : fin v (-1048576) ⟨4, [(12, 8, 12), (11, 1, 20), (1, 10, 21), (20, 1, 31)]⟩ = (if (v / 4096 % 256 * 4096 + v / 1048576 % 2 * 2048 + v / 2097152 % 1024 * 2 + v / 2147483648 % 2 * 1048576) / 1048576 = 1 then v / 4096 % 256 * 4096 + v / 1048576 % 2 * 2048 + v / 2097152 % 1024 * 2 + v / 2147483648 % 2 * 1048576 - 2097152 else v / 4096 % 256 * 4096 + v / 1048576 % 2 * 2048 + v / 2097152 % 1024 * 2 + v / 2147483648 % 2 * 1048576) := by
  have ht : top [(12, 8, 12), (11, 1, 20), (1, 10, 21), (20, 1, 31)] = 21 := by decide
  unfold fin
  dsimp only
  rw [ht, acc_J v h0 h1]
  obtain ⟨x0, hx0⟩ : ∃ x, v / 4096 % 256 = x := ⟨_, rfl⟩
  have b0 : 0 ≤ x0 ∧ x0 < 256 := by rw [← hx0]; exact ⟨Int.emod_nonneg _ (by omega), Int.emod_lt_of_pos _ (by omega)⟩
  obtain ⟨x1, hx1⟩ : ∃ x, v / 1048576 % 2 = x := ⟨_, rfl⟩
  have b1 : 0 ≤ x1 ∧ x1 < 2 := by rw [← hx1]; exact ⟨Int.emod_nonneg _ (by omega), Int.emod_lt_of_pos _ (by omega)⟩
  obtain ⟨x2, hx2⟩ : ∃ x, v / 2097152 % 1024 = x := ⟨_, rfl⟩
  have b2 : 0 ≤ x2 ∧ x2 < 1024 := by rw [← hx2]; exact ⟨Int.emod_nonneg _ (by omega), Int.emod_lt_of_pos _ (by omega)⟩
  obtain ⟨x3, hx3⟩ : ∃ x, v / 2147483648 % 2 = x := ⟨_, rfl⟩
  have b3 : 0 ≤ x3 ∧ x3 < 2 := by rw [← hx3]; exact ⟨Int.emod_nonneg _ (by omega), Int.emod_lt_of_pos _ (by omega)⟩
  rw [hx0, hx1, hx2, hx3]
  clear hx0 hx1 hx2 hx3 h0 h1 ht
  have e1 : (2 : Int) ^ ((21 : Int) - 1).toNat = 1048576 := by decide
  have e2 : wrap64 ((2 : Int) ^ ((21 : Int)).toNat) = 2097152 := IntWalk.wrap64_in _ (by decide)
  rw [e1, e2]
  have e3 : wrap64 (x0 * 4096 + x1 * 2048 + x2 * 2 + x3 * 1048576 - 2097152) = x0 * 4096 + x1 * 2048 + x2 * 2 + x3 * 1048576 - 2097152 := IntWalk.wrap64_in _ (by omega)
  rw [e3]
  by_cases hs : (x0 * 4096 + x1 * 2048 + x2 * 2 + x3 * 1048576) / 1048576 = 1
  · rw [if_pos ⟨rfl, by decide, hs⟩, if_pos hs]
  · rw [if_neg (fun h => hs h.2.2), if_neg hs]
theorem nums_J (v : Int) (h0 : 0 ≤ v) (h1 : v < 4294967296) : nums v shJ.low shJ.fs 1 = v / 128 % 32 ∧ nums v shJ.low shJ.fs 2 = 0 ∧ nums v shJ.low shJ.fs 3 = 0 ∧ nums v shJ.low shJ.fs 4 = (if (v / 4096 % 256 * 4096 + v / 1048576 % 2 * 2048 + v / 2097152 % 1024 * 2 + v / 2147483648 % 2 * 1048576) / 1048576 = 1 then v / 4096 % 256 * 4096 + v / 1048576 % 2 * 2048 + v / 2097152 % 1024 * 2 + v / 2147483648 % 2 * 1048576 - 2097152 else v / 4096 % 256 * 4096 + v / 1048576 % 2 * 2048 + v / 2097152 % 1024 * 2 + v / 2147483648 % 2 * 1048576) := by
  refine ⟨?_, ?_, ?_, ?_⟩
  · show nums v (-1048576) [fd, ⟨4, [(12, 8, 12), (11, 1, 20), (1, 10, 21), (20, 1, 31)]⟩] 1 = _
    rw [nums2, if_neg (by decide), if_pos (by decide)]
    exact fin_rd _ v h0 h1
  · show nums v (-1048576) [fd, ⟨4, [(12, 8, 12), (11, 1, 20), (1, 10, 21), (20, 1, 31)]⟩] 2 = _
    rw [nums2, if_neg (by decide), if_neg (by decide)]
  · show nums v (-1048576) [fd, ⟨4, [(12, 8, 12), (11, 1, 20), (1, 10, 21), (20, 1, 31)]⟩] 3 = _
    rw [nums2, if_neg (by decide), if_neg (by decide)]
  · show nums v (-1048576) [fd, ⟨4, [(12, 8, 12), (11, 1, 20), (1, 10, 21), (20, 1, 31)]⟩] 4 = _
    rw [nums2, if_pos (by decide)]
    exact fin_J v h0 h1
end rv
end Go.Proofs.Ytbcflhpaafpndaa
