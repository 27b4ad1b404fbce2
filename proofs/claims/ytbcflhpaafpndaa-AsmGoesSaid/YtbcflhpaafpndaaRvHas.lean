/- What the word of an instruction has. -/
import Derived.Test.YtbcflhpaafpndaaRvNums
namespace Go.Proofs.Ytbcflhpaafpndaa
open Go.RowKit
set_option linter.unusedVariables false
set_option linter.unusedSimpArgs false
namespace rv
theorem tm2 (n : Int) : n.tmod 2 = 0 ↔ n % 2 = 0 := (Int.dvd_iff_tmod_eq_zero).symm.trans Int.dvd_iff_emod_eq_zero
theorem row_bd : ∀ k, k < 64 → 1 ≤ k → (0 ≤ (row k).a ∧ (row k).a < 128) ∧ (0 ≤ (row k).b ∧ (row k).b < 8) ∧ (0 ≤ (row k).c ∧ (row k).c < 64) := by decide +kernel
/-- what a word has -/
structure Has (k : Nat) (rd rs1 rs2 im v : Int) : Prop where
  rng : 0 ≤ v ∧ v < 4294967296
  a : v % 128 = (row k).a
  b : (sh k).b = true → v / 4096 % 8 = (row k).b
  c : (lt k = 82 ∨ lt k = 89) → v / 33554432 % 64 = (row k).c
  c' : lt k = 88 → v / 67108864 % 64 = (row k).c
  n1 : numsK k v 1 = rd
  n2 : numsK k v 2 = rs1
  n3 : numsK k v 3 = rs2
  n4 : numsK k v 4 = im
theorem chk_R (rd rs1 rs2 im : Int) : chkS shR rd rs1 rs2 im = true ↔ (0 ≤ rd ∧ rd ≤ 31) ∧ (0 ≤ rs1 ∧ rs1 ≤ 31) ∧ (0 ≤ rs2 ∧ rs2 ≤ 31) ∧ (im = 0) := by
  have ht := tm2 im
  have h1 : im.tmod 1 = 0 := Int.tmod_one _
  simp only [chkS, shR, zV, fd, fs1, fs2, List.any_cons, List.any_nil, Bool.and_eq_true, Bool.or_eq_true, decide_eq_true_eq]
  simp
  omega
theorem has_R (k : Nat) (h1 : k < 64) (h2 : 1 ≤ k) (hf : (row k).form = ⟨#[82]⟩) (rd rs1 rs2 im : Int) (hc : chkS (sh k) rd rs1 rs2 im = true) : Has k rd rs1 rs2 im (wordK k rd rs1 rs2 im) := by
  have hs : sh k = shR := by unfold sh; rw [hf]; rfl
  have hl : lt k = 82 := by unfold lt; rw [hf]; rfl
  obtain ⟨ha, hb, hcc⟩ := row_bd k h1 h2
  rw [hs] at hc
  obtain ⟨hrd, hrs1, hrs2, rfl⟩ := (chk_R _ _ _ _).mp hc
  have e : wordK k rd rs1 rs2 0 = VR (row k).a (row k).b (row k).c rd rs1 rs2 0 3 := by unfold wordK; rw [hl]; rfl
  have hv := e.trans (VR_sum (row k).a (row k).b (row k).c rd rs1 rs2 0 ha hb hcc hrd hrs1 hrs2)
  generalize wordK k rd rs1 rs2 0 = v at *
  obtain ⟨qrng, qa, qb, qc, qn1, qn2, qn3⟩ := VR_has (row k).a (row k).b (row k).c rd rs1 rs2 0 v ha hb hcc hrd hrs1 hrs2 hv
  obtain ⟨m1, m2, m3, m4⟩ := nums_R v qrng.1 qrng.2
  have hN : ∀ q, numsK k v q = nums v shR.low shR.fs q := fun q => by unfold numsK; rw [hs]
  exact ⟨qrng, qa, fun _ => qb, fun _ => qc, fun h => (by rw [hl] at h; omega), (hN 1).trans (m1.trans qn1), (hN 2).trans (m2.trans qn2), (hN 3).trans (m3.trans qn3), (hN 4).trans m4⟩
theorem chk_I (rd rs1 rs2 im : Int) : chkS shI rd rs1 rs2 im = true ↔ (0 ≤ rd ∧ rd ≤ 31) ∧ (0 ≤ rs1 ∧ rs1 ≤ 31) ∧ (rs2 = 0) ∧ (-2048 ≤ im ∧ im ≤ 2047) := by
  have ht := tm2 im
  have h1 : im.tmod 1 = 0 := Int.tmod_one _
  simp only [chkS, shI, zV, fd, fs1, fs2, List.any_cons, List.any_nil, Bool.and_eq_true, Bool.or_eq_true, decide_eq_true_eq]
  simp
  omega
theorem has_I (k : Nat) (h1 : k < 64) (h2 : 1 ≤ k) (hf : (row k).form = ⟨#[73]⟩) (rd rs1 rs2 im : Int) (hc : chkS (sh k) rd rs1 rs2 im = true) : Has k rd rs1 rs2 im (wordK k rd rs1 rs2 im) := by
  have hs : sh k = shI := by unfold sh; rw [hf]; rfl
  have hl : lt k = 73 := by unfold lt; rw [hf]; rfl
  obtain ⟨ha, hb, hcc⟩ := row_bd k h1 h2
  rw [hs] at hc
  obtain ⟨hrd, hrs1, rfl, him⟩ := (chk_I _ _ _ _).mp hc
  have e : wordK k rd rs1 0 im = VI (row k).a (row k).b (row k).c rd rs1 0 im 3 := by unfold wordK; rw [hl]; rfl
  have hv := e.trans (VI_sum (row k).a (row k).b (row k).c rd rs1 0 im ha hb hcc hrd hrs1)
  generalize wordK k rd rs1 0 im = v at *
  obtain ⟨qrng, qa, qb, qn1, qn2, qn4⟩ := VI_has (row k).a (row k).b (row k).c rd rs1 0 im v ha hb hcc hrd hrs1 him hv
  obtain ⟨m1, m2, m3, m4⟩ := nums_I v qrng.1 qrng.2
  have hN : ∀ q, numsK k v q = nums v shI.low shI.fs q := fun q => by unfold numsK; rw [hs]
  exact ⟨qrng, qa, fun _ => qb, fun h => (by rw [hl] at h; omega), fun h => (by rw [hl] at h; omega), (hN 1).trans (m1.trans qn1), (hN 2).trans (m2.trans qn2), (hN 3).trans m3, (hN 4).trans (m4.trans qn4)⟩
theorem chk_X (rd rs1 rs2 im : Int) : chkS shX rd rs1 rs2 im = true ↔ (0 ≤ rd ∧ rd ≤ 31) ∧ (0 ≤ rs1 ∧ rs1 ≤ 31) ∧ (rs2 = 0) ∧ (0 ≤ im ∧ im ≤ 63) := by
  have ht := tm2 im
  have h1 : im.tmod 1 = 0 := Int.tmod_one _
  simp only [chkS, shX, zV, fd, fs1, fs2, List.any_cons, List.any_nil, Bool.and_eq_true, Bool.or_eq_true, decide_eq_true_eq]
  simp
  omega
theorem has_X (k : Nat) (h1 : k < 64) (h2 : 1 ≤ k) (hf : (row k).form = ⟨#[88]⟩) (rd rs1 rs2 im : Int) (hc : chkS (sh k) rd rs1 rs2 im = true) : Has k rd rs1 rs2 im (wordK k rd rs1 rs2 im) := by
  have hs : sh k = shX := by unfold sh; rw [hf]; rfl
  have hl : lt k = 88 := by unfold lt; rw [hf]; rfl
  obtain ⟨ha, hb, hcc⟩ := row_bd k h1 h2
  rw [hs] at hc
  obtain ⟨hrd, hrs1, rfl, him⟩ := (chk_X _ _ _ _).mp hc
  have e : wordK k rd rs1 0 im = VX (row k).a (row k).b (row k).c rd rs1 0 im 3 := by unfold wordK; rw [hl]; rfl
  have hv := e.trans (VX_sum (row k).a (row k).b (row k).c rd rs1 0 im ha hb hcc hrd hrs1)
  generalize wordK k rd rs1 0 im = v at *
  obtain ⟨qrng, qa, qb, qc, qn1, qn2, qn4⟩ := VX_has (row k).a (row k).b (row k).c rd rs1 0 im v ha hb hcc hrd hrs1 him hv
  obtain ⟨m1, m2, m3, m4⟩ := nums_X v qrng.1 qrng.2
  have hN : ∀ q, numsK k v q = nums v shX.low shX.fs q := fun q => by unfold numsK; rw [hs]
  exact ⟨qrng, qa, fun _ => qb, fun h => (by rw [hl] at h; omega), fun _ => qc, (hN 1).trans (m1.trans qn1), (hN 2).trans (m2.trans qn2), (hN 3).trans m3, (hN 4).trans (m4.trans qn4)⟩
theorem chk_Y (rd rs1 rs2 im : Int) : chkS shY rd rs1 rs2 im = true ↔ (0 ≤ rd ∧ rd ≤ 31) ∧ (0 ≤ rs1 ∧ rs1 ≤ 31) ∧ (rs2 = 0) ∧ (0 ≤ im ∧ im ≤ 31) := by
  have ht := tm2 im
  have h1 : im.tmod 1 = 0 := Int.tmod_one _
  simp only [chkS, shY, zV, fd, fs1, fs2, List.any_cons, List.any_nil, Bool.and_eq_true, Bool.or_eq_true, decide_eq_true_eq]
  simp
  omega
theorem has_Y (k : Nat) (h1 : k < 64) (h2 : 1 ≤ k) (hf : (row k).form = ⟨#[89]⟩) (rd rs1 rs2 im : Int) (hc : chkS (sh k) rd rs1 rs2 im = true) : Has k rd rs1 rs2 im (wordK k rd rs1 rs2 im) := by
  have hs : sh k = shY := by unfold sh; rw [hf]; rfl
  have hl : lt k = 89 := by unfold lt; rw [hf]; rfl
  obtain ⟨ha, hb, hcc⟩ := row_bd k h1 h2
  rw [hs] at hc
  obtain ⟨hrd, hrs1, rfl, him⟩ := (chk_Y _ _ _ _).mp hc
  have e : wordK k rd rs1 0 im = VY (row k).a (row k).b (row k).c rd rs1 0 im 3 := by unfold wordK; rw [hl]; rfl
  have hv := e.trans (VY_sum (row k).a (row k).b (row k).c rd rs1 0 im ha hb hcc hrd hrs1)
  generalize wordK k rd rs1 0 im = v at *
  obtain ⟨qrng, qa, qb, qc, qn1, qn2, qn4⟩ := VY_has (row k).a (row k).b (row k).c rd rs1 0 im v ha hb hcc hrd hrs1 him hv
  obtain ⟨m1, m2, m3, m4⟩ := nums_Y v qrng.1 qrng.2
  have hN : ∀ q, numsK k v q = nums v shY.low shY.fs q := fun q => by unfold numsK; rw [hs]
  exact ⟨qrng, qa, fun _ => qb, fun _ => qc, fun h => (by rw [hl] at h; omega), (hN 1).trans (m1.trans qn1), (hN 2).trans (m2.trans qn2), (hN 3).trans m3, (hN 4).trans (m4.trans qn4)⟩
theorem chk_S (rd rs1 rs2 im : Int) : chkS shS rd rs1 rs2 im = true ↔ (rd = 0) ∧ (0 ≤ rs1 ∧ rs1 ≤ 31) ∧ (0 ≤ rs2 ∧ rs2 ≤ 31) ∧ (-2048 ≤ im ∧ im ≤ 2047) := by
  have ht := tm2 im
  have h1 : im.tmod 1 = 0 := Int.tmod_one _
  simp only [chkS, shS, zV, fd, fs1, fs2, List.any_cons, List.any_nil, Bool.and_eq_true, Bool.or_eq_true, decide_eq_true_eq]
  simp
  omega
theorem has_S (k : Nat) (h1 : k < 64) (h2 : 1 ≤ k) (hf : (row k).form = ⟨#[83]⟩) (rd rs1 rs2 im : Int) (hc : chkS (sh k) rd rs1 rs2 im = true) : Has k rd rs1 rs2 im (wordK k rd rs1 rs2 im) := by
  have hs : sh k = shS := by unfold sh; rw [hf]; rfl
  have hl : lt k = 83 := by unfold lt; rw [hf]; rfl
  obtain ⟨ha, hb, hcc⟩ := row_bd k h1 h2
  rw [hs] at hc
  obtain ⟨rfl, hrs1, hrs2, him⟩ := (chk_S _ _ _ _).mp hc
  have e : wordK k 0 rs1 rs2 im = VS (row k).a (row k).b (row k).c 0 rs1 rs2 im 3 := by unfold wordK; rw [hl]; rfl
  have hv := e.trans (VS_sum (row k).a (row k).b (row k).c 0 rs1 rs2 im ha hb hcc hrs1 hrs2)
  generalize wordK k 0 rs1 rs2 im = v at *
  obtain ⟨qrng, qa, qb, qn2, qn3, qn4⟩ := VS_has (row k).a (row k).b (row k).c 0 rs1 rs2 im v ha hb hcc hrs1 hrs2 him hv
  obtain ⟨m1, m2, m3, m4⟩ := nums_S v qrng.1 qrng.2
  have hN : ∀ q, numsK k v q = nums v shS.low shS.fs q := fun q => by unfold numsK; rw [hs]
  exact ⟨qrng, qa, fun _ => qb, fun h => (by rw [hl] at h; omega), fun h => (by rw [hl] at h; omega), (hN 1).trans m1, (hN 2).trans (m2.trans qn2), (hN 3).trans (m3.trans qn3), (hN 4).trans (m4.trans qn4)⟩
theorem chk_B (rd rs1 rs2 im : Int) : chkS shB rd rs1 rs2 im = true ↔ (rd = 0) ∧ (0 ≤ rs1 ∧ rs1 ≤ 31) ∧ (0 ≤ rs2 ∧ rs2 ≤ 31) ∧ (-4096 ≤ im ∧ im ≤ 4094 ∧ im % 2 = 0) := by
  have ht := tm2 im
  have h1 : im.tmod 1 = 0 := Int.tmod_one _
  simp only [chkS, shB, zV, fd, fs1, fs2, List.any_cons, List.any_nil, Bool.and_eq_true, Bool.or_eq_true, decide_eq_true_eq]
  simp
  constructor
  · intro h
    have h2 := of_decide_eq_true h.2
    rw [ht] at h2
    omega
  · intro h
    exact ⟨by omega, decide_eq_true (by rw [ht]; omega)⟩
theorem has_B (k : Nat) (h1 : k < 64) (h2 : 1 ≤ k) (hf : (row k).form = ⟨#[66]⟩) (rd rs1 rs2 im : Int) (hc : chkS (sh k) rd rs1 rs2 im = true) : Has k rd rs1 rs2 im (wordK k rd rs1 rs2 im) := by
  have hs : sh k = shB := by unfold sh; rw [hf]; rfl
  have hl : lt k = 66 := by unfold lt; rw [hf]; rfl
  obtain ⟨ha, hb, hcc⟩ := row_bd k h1 h2
  rw [hs] at hc
  obtain ⟨rfl, hrs1, hrs2, him⟩ := (chk_B _ _ _ _).mp hc
  have e : wordK k 0 rs1 rs2 im = VB (row k).a (row k).b (row k).c 0 rs1 rs2 im 3 := by unfold wordK; rw [hl]; rfl
  have hv := e.trans (VB_sum (row k).a (row k).b (row k).c 0 rs1 rs2 im ha hb hcc hrs1 hrs2)
  generalize wordK k 0 rs1 rs2 im = v at *
  obtain ⟨qrng, qa, qb, qn2, qn3, qn4⟩ := VB_has (row k).a (row k).b (row k).c 0 rs1 rs2 im v ha hb hcc hrs1 hrs2 him hv
  obtain ⟨m1, m2, m3, m4⟩ := nums_B v qrng.1 qrng.2
  have hN : ∀ q, numsK k v q = nums v shB.low shB.fs q := fun q => by unfold numsK; rw [hs]
  exact ⟨qrng, qa, fun _ => qb, fun h => (by rw [hl] at h; omega), fun h => (by rw [hl] at h; omega), (hN 1).trans m1, (hN 2).trans (m2.trans qn2), (hN 3).trans (m3.trans qn3), (hN 4).trans (m4.trans qn4)⟩
theorem chk_U (rd rs1 rs2 im : Int) : chkS shU rd rs1 rs2 im = true ↔ (0 ≤ rd ∧ rd ≤ 31) ∧ (rs1 = 0) ∧ (rs2 = 0) ∧ (-524288 ≤ im ∧ im ≤ 524287) := by
  have ht := tm2 im
  have h1 : im.tmod 1 = 0 := Int.tmod_one _
  simp only [chkS, shU, zV, fd, fs1, fs2, List.any_cons, List.any_nil, Bool.and_eq_true, Bool.or_eq_true, decide_eq_true_eq]
  simp
  omega
theorem has_U (k : Nat) (h1 : k < 64) (h2 : 1 ≤ k) (hf : (row k).form = ⟨#[85]⟩) (rd rs1 rs2 im : Int) (hc : chkS (sh k) rd rs1 rs2 im = true) : Has k rd rs1 rs2 im (wordK k rd rs1 rs2 im) := by
  have hs : sh k = shU := by unfold sh; rw [hf]; rfl
  have hl : lt k = 85 := by unfold lt; rw [hf]; rfl
  obtain ⟨ha, hb, hcc⟩ := row_bd k h1 h2
  rw [hs] at hc
  obtain ⟨hrd, rfl, rfl, him⟩ := (chk_U _ _ _ _).mp hc
  have e : wordK k rd 0 0 im = VU (row k).a (row k).b (row k).c rd 0 0 im 2 := by unfold wordK; rw [hl]; rfl
  have hv := e.trans (VU_sum (row k).a (row k).b (row k).c rd 0 0 im ha hb hcc hrd)
  generalize wordK k rd 0 0 im = v at *
  obtain ⟨qrng, qa, qn1, qn4⟩ := VU_has (row k).a (row k).b (row k).c rd 0 0 im v ha hb hcc hrd him hv
  obtain ⟨m1, m2, m3, m4⟩ := nums_U v qrng.1 qrng.2
  have hN : ∀ q, numsK k v q = nums v shU.low shU.fs q := fun q => by unfold numsK; rw [hs]
  exact ⟨qrng, qa, fun h => (by rw [hs] at h; cases h), fun h => (by rw [hl] at h; omega), fun h => (by rw [hl] at h; omega), (hN 1).trans (m1.trans qn1), (hN 2).trans m2, (hN 3).trans m3, (hN 4).trans (m4.trans qn4)⟩
theorem chk_J (rd rs1 rs2 im : Int) : chkS shJ rd rs1 rs2 im = true ↔ (0 ≤ rd ∧ rd ≤ 31) ∧ (rs1 = 0) ∧ (rs2 = 0) ∧ (-1048576 ≤ im ∧ im ≤ 1048574 ∧ im % 2 = 0) := by
  have ht := tm2 im
  have h1 : im.tmod 1 = 0 := Int.tmod_one _
  simp only [chkS, shJ, zV, fd, fs1, fs2, List.any_cons, List.any_nil, Bool.and_eq_true, Bool.or_eq_true, decide_eq_true_eq]
  simp
  constructor
  · intro h
    have h2 := of_decide_eq_true h.2
    rw [ht] at h2
    omega
  · intro h
    exact ⟨by omega, decide_eq_true (by rw [ht]; omega)⟩
theorem has_J (k : Nat) (h1 : k < 64) (h2 : 1 ≤ k) (hf : (row k).form = ⟨#[74]⟩) (rd rs1 rs2 im : Int) (hc : chkS (sh k) rd rs1 rs2 im = true) : Has k rd rs1 rs2 im (wordK k rd rs1 rs2 im) := by
  have hs : sh k = shJ := by unfold sh; rw [hf]; rfl
  have hl : lt k = 74 := by unfold lt; rw [hf]; rfl
  obtain ⟨ha, hb, hcc⟩ := row_bd k h1 h2
  rw [hs] at hc
  obtain ⟨hrd, rfl, rfl, him⟩ := (chk_J _ _ _ _).mp hc
  have e : wordK k rd 0 0 im = VJ (row k).a (row k).b (row k).c rd 0 0 im 2 := by unfold wordK; rw [hl]; rfl
  have hv := e.trans (VJ_sum (row k).a (row k).b (row k).c rd 0 0 im ha hb hcc hrd)
  generalize wordK k rd 0 0 im = v at *
  obtain ⟨qrng, qa, qn1, qn4⟩ := VJ_has (row k).a (row k).b (row k).c rd 0 0 im v ha hb hcc hrd him hv
  obtain ⟨m1, m2, m3, m4⟩ := nums_J v qrng.1 qrng.2
  have hN : ∀ q, numsK k v q = nums v shJ.low shJ.fs q := fun q => by unfold numsK; rw [hs]
  exact ⟨qrng, qa, fun h => (by rw [hs] at h; cases h), fun h => (by rw [hl] at h; omega), fun h => (by rw [hl] at h; omega), (hN 1).trans (m1.trans qn1), (hN 2).trans m2, (hN 3).trans m3, (hN 4).trans (m4.trans qn4)⟩
theorem chk_E (rd rs1 rs2 im : Int) : chkS shE rd rs1 rs2 im = true ↔ rd = 0 ∧ rs1 = 0 ∧ rs2 = 0 ∧ im = 0 := by
  simp only [chkS, shE, zV, List.any_nil, Bool.and_eq_true, Bool.or_eq_true, decide_eq_true_eq]
  simp
  omega
theorem has_E (k : Nat) (h1 : k < 64) (h2 : 1 ≤ k) (hf : (row k).form = ⟨#[69]⟩) (rd rs1 rs2 im : Int) (hc : chkS (sh k) rd rs1 rs2 im = true) : Has k rd rs1 rs2 im (wordK k rd rs1 rs2 im) := by
  have hs : sh k = shE := by unfold sh; rw [hf]; rfl
  have hl : lt k = 69 := by unfold lt; rw [hf]; rfl
  obtain ⟨ha, hb, hcc⟩ := row_bd k h1 h2
  rw [hs] at hc
  obtain ⟨rfl, rfl, rfl, rfl⟩ := (chk_E _ _ _ _).mp hc
  have e : wordK k 0 0 0 0 = (row k).a := by unfold wordK; rw [hl]; rfl
  have hN : ∀ v q, numsK k v q = 0 := fun v q => by unfold numsK; rw [hs]; rfl
  rw [e]
  exact ⟨by omega, by omega, fun h => (by rw [hs] at h; cases h), fun h => (by rw [hl] at h; omega), fun h => (by rw [hl] at h; omega), hN _ _, hN _ _, hN _ _, hN _ _⟩
theorem has_any (k : Nat) (h1 : k < 64) (h2 : 1 ≤ k) (rd rs1 rs2 im : Int) (hc : chkS (sh k) rd rs1 rs2 im = true) : Has k rd rs1 rs2 im (wordK k rd rs1 rs2 im) := by
  rcases form_cases k h1 h2 with h | h | h | h | h | h | h | h | h
  · exact has_R k h1 h2 h _ _ _ _ hc
  · exact has_I k h1 h2 h _ _ _ _ hc
  · exact has_X k h1 h2 h _ _ _ _ hc
  · exact has_Y k h1 h2 h _ _ _ _ hc
  · exact has_S k h1 h2 h _ _ _ _ hc
  · exact has_B k h1 h2 h _ _ _ _ hc
  · exact has_U k h1 h2 h _ _ _ _ hc
  · exact has_J k h1 h2 h _ _ _ _ hc
  · exact has_E k h1 h2 h _ _ _ _ hc
/-- a, b and c tell the operation -/
def uniqB (j k : Nat) : Bool := decide (j = 0) || decide (k = 0) || decide (j = k) || decide ((row j).a ≠ (row k).a) || ((sh j).b && (sh k).b && decide ((row j).b ≠ (row k).b)) || (decide (lt j = lt k) && decide ((row j).c ≠ (row k).c))
theorem uniq_all : ∀ j, j < 64 → ∀ k, k < 64 → uniqB j k = true := by decide +kernel
theorem uniq (j : Nat) (hj : j < 64) (k : Nat) (hk : k < 64) (j1 : 1 ≤ j) (k1 : 1 ≤ k) (ha : (row j).a = (row k).a) (hb : (sh j).b = true → (sh k).b = true → (row j).b = (row k).b) (hc : lt j = lt k → (row j).c = (row k).c) : j = k := by
  have h := uniq_all j hj k hk
  unfold uniqB at h
  simp only [Bool.or_eq_true, Bool.and_eq_true, decide_eq_true_eq] at h
  rcases h with ((((h | h) | h) | h) | h) | h
  · omega
  · omega
  · exact h
  · exact absurd ha h
  · exact absurd (hb h.1.1 h.1.2) h.2
  · exact absurd (hc h.1) h.2
theorem c_lt : ∀ k, k < 64 → 1 ≤ k → (lt k = 82 ∨ lt k = 89 ∨ lt k = 88 ∨ (row k).c = 0) := by decide +kernel
theorem has_uniq (j k : Nat) (hj : j < 64) (hj1 : 1 ≤ j) (hk : k < 64) (hk1 : 1 ≤ k) (a1 a2 a3 a4 b1 b2 b3 b4 v : Int) (h : Has j a1 a2 a3 a4 v) (g : Has k b1 b2 b3 b4 v) : j = k := by
  refine uniq j hj k hk hj1 hk1 (h.a.symm.trans g.a) (fun p q => (h.b p).symm.trans (g.b q)) (fun e => ?_)
  rcases c_lt j hj hj1 with p | p | p | p
  · exact (h.c (Or.inl p)).symm.trans (g.c (Or.inl (e ▸ p)))
  · exact (h.c (Or.inr p)).symm.trans (g.c (Or.inr (e ▸ p)))
  · exact (h.c' p).symm.trans (g.c' (e ▸ p))
  · rcases c_lt k hk hk1 with q | q | q | q
    · exact (h.c (Or.inl (e ▸ q))).symm.trans (g.c (Or.inl q))
    · exact (h.c (Or.inr (e ▸ q))).symm.trans (g.c (Or.inr q))
    · exact (h.c' (e ▸ q)).symm.trans (g.c' q)
    · rw [p, q]
theorem chkI_nat (k : Nat) (h1 : k < 64) (h2 : 1 ≤ k) (rd rs1 rs2 im : Int) : chkI k rd rs1 rs2 im = 0 ↔ chkS (sh k) rd rs1 rs2 im = true := by
  have hi : is k = true := decide_eq_true ⟨by omega, by omega⟩
  unfold chkI chkR
  rw [if_pos hi, Int.toNat_natCast]
  cases chkS (sh k) rd rs1 rs2 im <;> simp
theorem hits_of (k : Nat) (h1 : k < 64) (h2 : 1 ≤ k) (rd rs1 rs2 im : Int) (hc : chkS (sh k) rd rs1 rs2 im = true) : hits (wordK k rd rs1 rs2 im) k = true := by
  have h := has_any k h1 h2 rd rs1 rs2 im hc
  obtain ⟨r0, r1⟩ := h.rng
  unfold hits
  rw [h.n1, h.n2, h.n3, h.n4, decide_eq_true ((chkI_nat k h1 h2 _ _ _ _).mpr hc), decide_eq_true (rfl : wordK k rd rs1 rs2 im = wordK k rd rs1 rs2 im),
    mask32 7 _ 128 127 rfl rfl (by omega) r0 r1, mask32 3 _ 8 7 rfl rfl (by omega) (by omega) (by omega), decide_eq_true h.a.symm]
  cases hb : (sh k).b
  · rfl
  · rw [decide_eq_true (h.b hb).symm]
    rfl
theorem hits_has (k : Nat) (h1 : k < 64) (h2 : 1 ≤ k) (v : Int) (h : hits v k = true) : chkS (sh k) (numsK k v 1) (numsK k v 2) (numsK k v 3) (numsK k v 4) = true ∧ wordK k (numsK k v 1) (numsK k v 2) (numsK k v 3) (numsK k v 4) = v := by
  unfold hits at h
  simp only [Bool.and_eq_true, decide_eq_true_eq] at h
  exact ⟨(chkI_nat k h1 h2 _ _ _ _).mp h.1.2, h.2⟩
/-- a word is that of one operation alone -/
theorem opOf_word (k : Nat) (h1 : k < 64) (h2 : 1 ≤ k) (rd rs1 rs2 im : Int) (hc : chkS (sh k) rd rs1 rs2 im = true) : opOf (wordK k rd rs1 rs2 im) = k := by
  refine opOf_eq _ k h2 h1 (hits_of k h1 h2 _ _ _ _ hc) (fun i p q => ?_)
  cases hh : hits (wordK k rd rs1 rs2 im) i
  · rfl
  · obtain ⟨c, e⟩ := hits_has i (by omega) p _ hh
    have h := has_any i (by omega) p _ _ _ _ c
    rw [e] at h
    have := has_uniq i k (by omega) p h1 h2 _ _ _ _ _ _ _ _ _ h (has_any k h1 h2 _ _ _ _ hc)
    omega
end rv
end Go.Proofs.Ytbcflhpaafpndaa
