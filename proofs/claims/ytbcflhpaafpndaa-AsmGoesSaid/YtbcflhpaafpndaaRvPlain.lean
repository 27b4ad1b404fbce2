/- Encoded and decoded again, in plain words. -/
import Derived.Test.YtbcflhpaafpndaaRvHas
namespace Go.Proofs.Ytbcflhpaafpndaa
open Go.RowKit
set_option linter.unusedVariables false
namespace rv
theorem dec_none (v : Int) (h : opOf v = 64) : decE v = 16 ∧ decRow v = #[.int .i64 0, .int .i64 0, .int .i64 0, .int .i64 0, .int .i64 0] := by unfold decE decRow; rw [h]; exact ⟨rfl, rfl⟩
end rv
namespace rv
theorem dec_back (op rd rs1 rs2 im : Int) (h : chkI op rd rs1 rs2 im = 0) : (0 ≤ encI op rd rs1 rs2 im ∧ encI op rd rs1 rs2 im < 4294967296) ∧ decRow (encI op rd rs1 rs2 im) = #[.int .i64 op, .int .i64 rd, .int .i64 rs1, .int .i64 rs2, .int .i64 im] ∧ decE (encI op rd rs1 rs2 im) = 0 := by
  obtain ⟨h1, h2⟩ := chk_is _ _ _ _ _ h
  obtain ⟨k, rfl⟩ : ∃ k : Nat, op = k := ⟨op.toNat, by omega⟩
  have hc := (chkI_nat k (by omega) (by omega) rd rs1 rs2 im).mp h
  have e : encI k rd rs1 rs2 im = wordK k rd rs1 rs2 im := by unfold encI; rw [if_pos h, Int.toNat_natCast]
  have hh := has_any k (by omega) (by omega) _ _ _ _ hc
  have ho := opOf_word k (by omega) (by omega) _ _ _ _ hc
  rw [e]
  refine ⟨hh.rng, ?_, ?_⟩
  · unfold decRow
    rw [ho, if_pos (by omega)]
    unfold readRow
    rw [hh.n1, hh.n2, hh.n3, hh.n4]
  · unfold decE
    rw [ho, if_pos (by omega)]
theorem dec_yes (v : Int) (h : decE v = 0) : ∃ k : Nat, 1 ≤ k ∧ k < 64 ∧ ∃ rd rs1 rs2 im : Int, decRow v = #[.int .i64 k, .int .i64 rd, .int .i64 rs1, .int .i64 rs2, .int .i64 im] ∧ chkI k rd rs1 rs2 im = 0 ∧ encI k rd rs1 rs2 im = v := by
  rcases opOf_hits v with ⟨a, b⟩ | ⟨a, b, c⟩
  · rw [(dec_none v a).1] at h
    cases h
  · obtain ⟨p, q⟩ := hits_has _ b a v c
    refine ⟨opOf v, a, b, _, _, _, _, ?_, (chkI_nat _ b a _ _ _ _).mpr p, ?_⟩
    · unfold decRow
      rw [if_pos b]
      rfl
    · unfold encI
      rw [if_pos ((chkI_nat _ b a _ _ _ _).mpr p), Int.toNat_natCast]
      exact q
theorem name_some : ∀ k, k < 64 → 1 ≤ k → (row k).name.toList ≠ [] := by decide +kernel
end rv
end Go.Proofs.Ytbcflhpaafpndaa
