/- AsmInverse: just the six branches have an inverse. -/
import Derived.Test.YtbcflhpaafpndaaAsAwake2
namespace Go.Proofs.Ytbcflhpaafpndaa
open Go.RowKit
set_option linter.unusedVariables false
theorem al.form_B_all : ∀ k, k < 64 → ((decide (5 ≤ k ∧ k ≤ 10) = true → (rv.row k).form = ⟨#[66]⟩) ∧ (decide (5 ≤ k ∧ k ≤ 10) = false → ((rv.row k).form.toList == [66]) = false)) := by decide +kernel
theorem al.form0B : ((rv.row 0).form.toList == [66]) = false := by decide +kernel
theorem al.form_B' (op : Int) : (al.isB op = true → (rv.rowI op).form = ⟨#[66]⟩) ∧ (al.isB op = false → ((rv.rowI op).form.toList == [66]) = false) := by
  unfold rv.rowI rv.is al.isB
  by_cases h : 1 ≤ op ∧ op < 64
  · rw [decide_eq_true h]
    obtain ⟨k, rfl⟩ : ∃ k : Nat, op = k := ⟨op.toNat, by omega⟩
    have := al.form_B_all k (by omega)
    simp only [if_true, Int.toNat_natCast]
    exact ⟨fun q => this.1 (decide_eq_true (by have := of_decide_eq_true q; omega)), fun q => this.2 (decide_eq_false (by have := of_decide_eq_false q; omega))⟩
  · rw [decide_eq_false h]
    simp only [Bool.false_eq_true, if_false]
    exact ⟨fun q => absurd (by have := of_decide_eq_true q; omega) h, fun _ => al.form0B⟩
set_option maxRecDepth 100000 in
set_option maxHeartbeats 1600000 in
theorem inv_law (op : Int) (o0 : -9223372036854775808 ≤ op) (o1 : op ≤ 9223372036854775807) (w : World) :
    Calls Try.prog 6 #[.int .i64 op] w fun e w' => e = .returned (.bool true) ∧ Below w.heap.size w w' := by
  have HAw := bl.hid (awake_any w)
  have HIv := bl.hid (fun w => inverse_any op o0 o1 w)
  have HFo := bl.hid (fun w => form_any op w)
  obtain ⟨hB1, hB2⟩ := al.form_B' op
  obtain ⟨fm, hfm⟩ : ∃ fm, (rv.rowI op).form = fm := ⟨_, rfl⟩
  rw [hfm] at hB1 hB2 HFo
  by_cases hb : al.isB op = true
  · obtain rfl := hB1 hb
    obtain ⟨i1, i2, i3⟩ := al.isB_inv op hb
    obtain ⟨v, hv⟩ : ∃ v, al.inv op = v := ⟨_, rfl⟩
    rw [hv] at HIv i1 i2 i3
    have hvb : -9223372036854775808 ≤ v ∧ v ≤ 9223372036854775807 := by have := of_decide_eq_true i1; omega
    have HIw := bl.hid (fun w => inverse_any v hvb.1 hvb.2 w)
    rw [i2] at HIw
    have HFv := bl.hid (fun w => form_any v w)
    rw [(al.form_B' v).1 i1] at HFv
    have hne : (v != op) = true := by simpa using i3
    clear hB1 hB2 hfm hb i1 i2 i3 hv hvb
    go_enter Try.func6, Try.ntmps6
    go_wp2_with fail
    refine HAw.out.mono ?_
    rintro e w1 ⟨rfl, h1⟩
    have H1 := bl.hid h1
    clear h1
    go_wp2_with fail
    refine (HIv.out _).mono ?_
    rintro e w2 ⟨rfl, rfl⟩
    go_wp2_with fail
    refine (HFo.out _).mono ?_
    rintro e w3 ⟨rfl, h3⟩
    have H3 := bl.hid h3
    clear h3
    go_wp2_with fail
    refine (HIw.out _).mono ?_
    rintro e w4 ⟨rfl, rfl⟩
    go_wp2_with fail
    refine (HFv.out _).mono ?_
    rintro e w5 ⟨rfl, h5⟩
    have H5 := bl.hid h5
    clear h5
    go_wp2
    go_ret
    exact ⟨rfl, below_call (below_call H1.out H3.out) H5.out⟩
  · have hb' : al.isB op = false := by simpa using hb
    have hs := hB2 hb'
    have hi : al.inv op = 0 := by
      have := of_decide_eq_false hb'
      unfold al.inv
      rw [if_neg (by omega), if_neg (by omega)]
    rw [hi] at HIv
    clear hB1 hB2 hfm hb hb' hi
    go_enter Try.func6, Try.ntmps6
    go_wp2_with fail
    refine HAw.out.mono ?_
    rintro e w1 ⟨rfl, h1⟩
    have H1 := bl.hid h1
    clear h1
    go_wp2_with fail
    refine (HIv.out _).mono ?_
    rintro e w2 ⟨rfl, rfl⟩
    go_wp2_with fail
    refine (HFo.out _).mono ?_
    rintro e w3 ⟨rfl, h3⟩
    have H3 := bl.hid h3
    clear h3
    go_wp2
    go_ret
    exact ⟨rfl, below_call H1.out H3.out⟩
theorem inverse_walk (op : Int) (w : World) (h : (Lit.int .i64 op).wf = true) :
    Calls Try.prog 6 #[.int .i64 op] w fun e w' => e = .returned (.bool true) ∧ Below w.heap.size w w' := inv_law op (bl.wf_i64 h).1 (bl.wf_i64 h).2 w
end Go.Proofs.Ytbcflhpaafpndaa
