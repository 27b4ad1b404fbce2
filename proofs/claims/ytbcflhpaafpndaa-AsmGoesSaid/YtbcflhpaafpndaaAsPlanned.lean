/- until, planned: who is far in the end. -/
import Derived.Test.YtbcflhpaafpndaaAsGrow
import Derived.Deep.LoopGhost
namespace Go.Proofs.Ytbcflhpaafpndaa
open Go.RowKit
set_option linter.unusedVariables false
def UntilPost (Pb : Nat) (a : Option Addr) (n c : Nat) (fa : Option Addr) (fc : Nat) (ls : Nat → kt.Ln) (w : World) (e : Ending) (w' : World) : Prop :=
  e = .returned (.tuple #[]) ∧ ∃ base pv Bm, w.heap.size ≤ base ∧ PlanAt w' Pb a n c fa fc ls (al.farE ls n) base pv Bm ∧ FarAt w' fa n (al.farE ls n) ∧ kt.ButP (planOwn Pb fa) w w'
structure UInv (w wr : World) (Pb : Nat) (a : Option Addr) (n c : Nat) (fa : Option Addr) (fc : Nat) (ls : Nat → kt.Ln) (k : Nat) : Prop where
  plan : ∃ pv mv, wr.heap[Pb]? = some (.cells (planCells a n c fa n fc pv mv) 62 (0, 0))
  lines : kt.Lines wr a n ls
  far : FarAt wr fa n (al.farN ls n k)
  but : kt.ButP (planOwn Pb fa) w wr
  le : k ≤ n
  cnt : k ≤ al.count (al.farN ls n k) n
set_option maxRecDepth 100000 in
set_option maxHeartbeats 1600000 in
theorem until_any (Pb : Nat) (a : Option Addr) (n c : Nat) (fa : Option Addr) (fc : Nat) (ls : Nat → kt.Ln) (pv0 mv0 : Value) (w : World) (hn : n ≤ 4000)
    (hp : w.heap[Pb]? = some (.cells (planCells a n c fa n fc pv0 mv0) 62 (0, 0))) (hl : kt.Lines w a n ls) (hf : FarAt w fa n (fun _ => false)) :
    Calls Try.prog 34 #[.pointer (some ⟨Pb, 0, none⟩), .func (.func 35) #[] #[]] w (UntilPost Pb a n c fa fc ls w) := by
  have H0 : Hid (UInv w w Pb a n c fa fc ls 0) := bl.hid ⟨⟨_, _, hp⟩, hl, hf, kt.ButP.refl _ _, by omega, by omega⟩
  clear hp hl hf
  go_enter Try.func34, Try.ntmps34
  go_wp2
  go_loopg [6] n (fun g u wr => ∃ k, g = n - k ∧ UInv w wr Pb a n c fa fc ls k)
  case atStart => exact ⟨0, by omega, H0.out⟩
  case round =>
    obtain ⟨k, rfl, hU⟩ := hrel
    have HU := bl.hid hU
    obtain ⟨pv, mv, hp⟩ := hU.plan
    have HG := bl.hid (grow_any Pb a n c fa fc ls (al.farN ls n k) pv mv wr hn hp hU.lines hU.far)
    clear hU hp
    go_wp2_with fail
    refine HG.out.mono ?_
    rintro e w1 ⟨rfl, pv1, Bm1, hP1, hF1, hB1⟩
    have HP1 := bl.hid hP1
    have HF1 := bl.hid hF1
    have HB1 := bl.hid hB1
    clear hP1 hF1 hB1
    cases ht : turned ls n (al.farN ls n k) n
    · have HT := bl.hid ht
      clear ht
      go_wp2
      go_end0
      have hfix := turned_fix ls n _ HT.out
      have hE := al.farE_of ls n k HU.out.le hfix
      refine ⟨rfl, wr.heap.size, pv1, Bm1, HU.out.but.size, ?_, ?_, HU.out.but.trans HB1.out⟩
      · rw [← hE]; exact HP1.out
      · rw [← hE]; rw [hfix] at HF1; exact HF1.out
    · have HT := bl.hid ht
      clear ht
      have hc : k + 1 ≤ al.count (al.farN ls n (k + 1)) n := by
        obtain ⟨i, hi, h1, h2⟩ := turned_yes ls n _ n HT.out
        have := al.count_lt (al.farN ls n k) (al.farN ls n (k + 1)) (fun j hj => al.grow_mono ls n _ j hj) n i hi h2 h1
        have := HU.out.cnt
        omega
      have hk1 : k + 1 ≤ n := by have := al.count_le (al.farN ls n (k + 1)) n; omega
      have HN : Hid (UInv w w1 Pb a n c fa fc ls (k + 1)) := bl.hid ⟨⟨_, _, HP1.out.plan⟩, HP1.out.lines, HF1.out, HU.out.but.trans HB1.out, hk1, hc⟩
      clear hc
      go_wp2
      go_roundg (n - (k + 1))
      case rel => exact ⟨k + 1, rfl, HN.out⟩
      case measure => omega
theorem bool_parts : (Try.prog.info? 4).map (fun i => (i.zero, i.size, i.bytes)) = some (some (.bool false), 1, 1) := by kernel_rfl
theorem far_made {w : World} {base n g : Nat} (h : w.ownsRow base 4 1 (.slice (some ⟨g, 0, none⟩) n n) n (List.replicate n (Value.bool false))) : FarAt w (some ⟨g, 0, none⟩) n (fun _ => false) := by
  rcases h.2 with ⟨h1, _⟩ | ⟨g', cap', cur, h1, h2, h3, h4, h5, h6, h7⟩
  · cases h1
  · injection h1 with h1 h8 h9
    injection h1 with h1
    injection h1 with h1
    subst h1 h9
    refine .inr ⟨g, rfl, ?_⟩
    rw [h3]
    congr 2
    apply Array.toList_inj.1
    rw [Nat.mul_one] at h6 h7
    rw [List.take_of_length_le (by simp [h6])] at h7
    rw [h7]
    simp [List.map_const']
def PlannedPost (a : Option Addr) (n c : Nat) (ls : Nat → kt.Ln) (w : World) (e : Ending) (w' : World) : Prop :=
  ∃ Pb fa fc base pv Bm, e = .returned (.pointer (some ⟨Pb, 0, none⟩)) ∧ w.heap.size ≤ base ∧ w.heap.size ≤ Pb ∧ PlanAt w' Pb a n c fa fc ls (al.farE ls n) base pv Bm ∧ FarAt w' fa n (al.farE ls n) ∧ Below w.heap.size w w'
set_option maxRecDepth 100000 in
set_option maxHeartbeats 1600000 in
theorem planned_any (a : Option Addr) (n c : Nat) (ls : Nat → kt.Ln) (w : World) (hn : n ≤ 4000) (hl : kt.Lines w a n ls) :
    Calls Try.prog 24 #[.slice a n c] w (PlannedPost a n c ls w) := by
  have HL := bl.hid hl
  clear hl
  obtain ⟨zi, hzi, hz0, hz1, hz2⟩ := info_parts bool_parts
  go_enter Try.func24, Try.ntmps24
  go_wp2_with (refine wpList_make_full _ rfl _ _ 59 rfl w.heap.size 4 zi (.bool false) 1 Try.underlying59 hzi hz0 hz1 .i64 .i64 n n n rfl rfl rfl rfl (by rw [hz2]; omega) (by unfold maxLen; omega) (Nat.le_refl _) ?_)
  intro w1 hown hg
  rw [toList_madeCells_one] at hown
  have hb : Below w.heap.size w w1 := ⟨hg.os, hg.tape, hg.output, hg.size, fun k hk => hg.block k hk (by simp)⟩
  have hl1 : ∀ o, kt.Lines (w1.alloc o) a n ls := fun o => (HL.out.keep hb).keep (kt.below_row o)
  have hf1 : ∀ o, FarAt (w1.alloc o) (some ⟨w.heap.size, 0, none⟩) n (fun _ => false) := fun o => (far_made hown).keepB (kt.below_row o)
  have HU := bl.hid (until_any w1.heap.size a n c (some ⟨w.heap.size, 0, none⟩) n ls (.slice none 0 0) (.map none) (w1.alloc (.cells (planCells a n c (some ⟨w.heap.size, 0, none⟩) n n (.slice none 0 0) (.map none)) 62)) hn (heap_alloc_new _ _) (hl1 _) (hf1 _))
  have HB := bl.hid hb
  have hs := hg.size
  clear hown hg hb hl1 hf1
  go_wp2_with fail
  refine HU.out.mono ?_
  rintro e w2 ⟨rfl, base, pv, Bm, hbs, hP, hF, hBu⟩
  have HE : Hid (PlannedPost a n c ls w (.returned (.pointer (some ⟨w1.heap.size, 0, none⟩))) w2) := bl.hid (by
    rw [World.size_alloc] at hbs
    refine ⟨w1.heap.size, _, _, base, pv, Bm, rfl, by omega, hs, hP, hF, ?_⟩
    refine hBu.below (B := w.heap.size) ?_ (by rw [World.size_alloc]; omega) (HB.out.alloc hs _)
    rintro k (rfl | ⟨o, s, e⟩)
    · exact hs
    · injection e with e
      injection e with e1 e2 e3
      omega)
  clear hP hF hBu
  go_wp2
  go_ret
  exact HE.out
end Go.Proofs.Ytbcflhpaafpndaa
