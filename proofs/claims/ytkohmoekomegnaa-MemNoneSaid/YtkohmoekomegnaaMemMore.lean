/- Size, Copy, Same, New; and what a memory that nobody made answers: each by a contract. -/
import Derived.Test.YtkohmoekomegnaaMemLay
import Derived.Deep.QuietTactic
import Derived.BigQuiet
namespace Go.Proofs.Ytkohmoekomegnaa
open Go.RowKit
set_option linter.unusedVariables false

theorem size_any (p g n cap : Nat) (w : World) (hc : w.cell? ⟨p, 0, none⟩ = some (.slice (some ⟨g, 0, none⟩) n cap)) :
    Calls Try.prog 23 #[.pointer (some ⟨p, 0, none⟩)] w fun e w' => e = .returned (.int .i64 n) ∧ w = w' := by
  go_enter Try.func23, Try.ntmps23
  go_wp2_with fail
  refine (none_no p g n cap _ hc).mono ?_
  rintro e w' ⟨rfl, rfl⟩
  go_wp2
  go_ret
  exact ⟨rfl, rfl⟩
/-- another memory, in new blocks -/
def CopiedPost (l : List Int) (w : World) (e : Ending) (w' : World) : Prop :=
  ∃ p g, e = .returned (.pointer (some ⟨p, 0, none⟩)) ∧ w.heap.size ≤ p ∧ w.heap.size ≤ g ∧ IsMem w' p g l ∧ Below w.heap.size w w'
theorem isMem_boxed {w : World} {B : Nat} {a : Option Addr} {c : Nat} {l : List Int} (hb : wd.isBytes l) (hl : 0 < l.length) (hL : l.length ≤ 65536) (hown : kt.Own kt.IsU8 w B 5 1 (.slice a l.length c) l.length (l.map (Value.int .u8))) :
    ∃ g, B ≤ g ∧ IsMem (w.alloc (.cells #[.slice a l.length c] 55)) w.heap.size g l := by
  rcases hown.2 with ⟨_, h0⟩ | ⟨g, cap, cur, hv, h2, h3, h4, h5, h6, h7, h8⟩
  · omega
  · simp only [Value.slice.injEq] at hv
    obtain ⟨rfl, -, rfl⟩ := hv
    have hg := (Array.getElem?_eq_some_iff.1 h3).1
    refine ⟨g, h2, by omega, ⟨c, h4, heap_alloc_new w _⟩, ⟨cur.drop l.length, ?_⟩, hb, hL⟩
    rw [heap_alloc_old w _ hg, h3]
    congr 2
    rw [← List.take_append_drop l.length cur, ← h7]
    simp
theorem mcopy_any (p g : Nat) (l : List Int) (w : World) (h : IsMem w p g l) (hl : 0 < l.length) :
    Calls Try.prog 12 #[.pointer (some ⟨p, 0, none⟩)] w (CopiedPost l w) := by
  obtain ⟨cap, hcap, hc⟩ := h.cell
  have HR := bl.hid (h.rd 0 l.length (by omega))
  have HB := bl.hid h.bytes
  have hL := h.size
  clear h
  go_enter Try.func12, Try.ntmps12
  go_wp2_with fail
  refine (none_no p g l.length cap _ hc).mono ?_
  rintro e w' ⟨rfl, rfl⟩
  go_wp2_with fail
  refine (clone_any _ l.length cap _ _ HR.out (by omega)).mono ?_
  rintro e w1 ⟨a1, c1, rfl, hown, hb1⟩
  have hm : ∃ g', w.heap.size ≤ g' ∧ IsMem (w1.alloc (.cells #[.slice a1 l.length c1] 55)) w1.heap.size g' l := isMem_boxed HB.out hl hL (by simpa using hown)
  have HM := bl.hid hm
  clear hm hown
  go_wp2
  go_ret
  obtain ⟨g', h1, h2⟩ := HM.out
  exact ⟨_, g', rfl, hb1.size, h1, h2, hb1.alloc hb1.size _⟩
theorem equal_any (a a' : Option Addr) (n n' c c' : Nat) (l l' : List Int) (w : World) (h : kt.Rd w a n l) (h' : kt.Rd w a' n' l') : Calls Try.prog 31 #[.slice a n c, .slice a' n' c'] w fun e w' => e = .returned (.bool (decide (l = l'))) ∧ w = w' := by
  have k1 := h.convert (P := Try.prog) 22 5 9 Try.underlying22 Try.underlying5 Try.underlying9 c
  have k2 := h'.convert (P := Try.prog) 22 5 9 Try.underlying22 Try.underlying5 Try.underlying9 c'
  have hb := bl.hid h.2.1
  have hb' := bl.hid h'.2.1
  clear h h'
  go_enter Try.func31, Try.ntmps31
  go_wp2
  go_ret
  refine ⟨bl.ret1 (bl.bool_eq ?_), rfl⟩
  by_cases e : l = l'
  · subst e
    simp
  · have ne : ¬ (strOfNums l).toList = (strOfNums l').toList := fun q => e (kt.strOfNums_inj hb.out hb'.out (by
      rw [ByteArray.toList_eq, ByteArray.toList_eq] at q
      exact ByteArray.ext (Array.toList_inj.1 q)))
    simp [e, ne]
theorem IsMem.drewN {w : World} {p g : Nat} {l : List Int} (h : IsMem w p g l) (n : Nat) : IsMem (w.drewN n) p g l := h.kept rfl rfl
theorem below_drewN' (w : World) (n : Nat) : Below w.heap.size w (w.drewN n) := ⟨rfl, rfl, rfl, Nat.le_refl _, fun _ _ => rfl⟩
/-- Same, of two that are there -/
theorem msame_any (p g p' g' : Nat) (l l' : List Int) (w : World) (h : IsMem w p g l) (h' : IsMem w p' g' l') :
    Calls Try.prog 13 #[.pointer (some ⟨p, 0, none⟩), .pointer (some ⟨p', 0, none⟩)] w fun e w' => e = .returned (.bool (decide (l = l'))) ∧ Below w.heap.size w w' := by
  obtain ⟨cap, hcap, hc⟩ := h.cell
  obtain ⟨cap', hcap', hc'⟩ := h'.cell
  have HM : Hid (∀ n, kt.Rd (w.drewN n) (some ⟨g, 0, none⟩) l.length l) := bl.hid fun n => by have := (h.drewN n).rd 0 l.length (by omega); simpa using this
  have HM' : Hid (∀ n, kt.Rd (w.drewN n) (some ⟨g', 0, none⟩) l'.length l') := bl.hid fun n => by have := (h'.drewN n).rd 0 l'.length (by omega); simpa using this
  clear h h'
  go_enter Try.func13, Try.ntmps13
  go_wp2_with fail
  go_quiet ((first
    | (go_at_call 31; exact Calls.quiet_of_same ((equal_any (some ⟨g, 0, none⟩) (some ⟨g', 0, none⟩) l.length l'.length cap cap' l l' _ (HM.out _) (HM'.out _)).mono fun e w' q => ⟨q.1, q.2.symm⟩))
    | (go_at_call 29; exact Calls.quiet_of_same ((none_no _ _ _ _ _ (by first | simpa using hc | simpa using hc')).mono fun e w' q => ⟨q.1, q.2.symm⟩))))
  go_wp2
  go_ret
  exact ⟨rfl, below_drewN' _ _⟩
end Go.Proofs.Ytkohmoekomegnaa
