/- Alike: both memories are as one, byte for byte. -/
import Derived.Test.YtkohmoekomegnaaMemDoes3
namespace Go.Proofs.Ytkohmoekomegnaa
open Go.RowKit
set_option linter.unusedVariables false

theorem bytes_all (p g t : Nat) (L : List Int) (w : World) (h : IsMem w p g L) (hs : L.length = 16 + t) : Calls Try.prog 17 #[.pointer (some ⟨p, 0, none⟩), .int .u64 16, .int .i64 ((L.length : Int) - 16)] w (TellK t L w) := by
  have K := pl.keep_all L L.length rfl (by omega)
  have hb := h.bytes
  have hL := h.size
  refine (bytes_any p g 16 ((L.length : Int) - 16) L w h (by omega) (by omega) (by omega)).mono fun e w' q => ?_
  rw [K.1, K.2] at q
  obtain ⟨a, c, rfl, hown, hbl⟩ := q
  have hlen : (L.drop 16).length = t := by rw [List.length_drop]; omega
  refine ⟨a, c, by rw [hlen], by have := Rd_own (wd.isBytes_drop hb 16) hown; rwa [hlen] at this, fun ad e => ?_, hbl⟩
  subst e
  exact (hown.lt ad.block rfl).1
set_option maxRecDepth 100000 in
set_option maxHeartbeats 1600000 in
theorem alike_any (B p g p' g' : Nat) (l : List Int) (w : World) (h : Both B w p g p' g' l) (hl : 16 ≤ l.length) :
    Calls Try.prog 25 #[.pointer (some ⟨p, 0, none⟩), .pointer (some ⟨p', 0, none⟩)] w fun e w' => e = .returned (.bool true) ∧ Below w.heap.size w w' := by
  obtain ⟨cap, hcap, hc⟩ := h.m.cell
  obtain ⟨cap', hcap', hc'⟩ := h.r.cell
  obtain ⟨t, ht⟩ : ∃ t, l.length = 16 + t := ⟨l.length - 16, by omega⟩
  have hL := h.m.size
  have HT := bl.hid ht
  have HC : Hid (∀ n, (w.drewN n).cell? ⟨p, 0, none⟩ = some (.slice (some ⟨g, 0, none⟩) l.length cap)) := bl.hid fun n => by simpa using hc
  have H := bl.hid h
  clear h ht
  go_enter Try.func25, Try.ntmps25
  go_wp2_with fail
  go_quiet ((go_at_call 23; exact Calls.quiet_of_same ((size_any p g l.length cap _ (HC.out _)).mono fun e w' q => ⟨q.1, q.2.symm⟩)))
  have HN := bl.hid (H.out.keep (below_drewN' w nq))
  go_wp2_with fail
  refine (bytes_all p g t l _ HN.out.m HT.out).mono ?_
  rintro e w2 ⟨a, c, rfl, hrd, -, hb⟩
  have hb2 : Below w.heap.size w w2 := (below_drewN' w nq).trans hb
  have H2 := bl.hid (HN.out.keep hb)
  have HRD := bl.hid hrd
  have c2 := (hb2.cell (p := ⟨p', 0, none⟩) H.out.r.lt.1).trans hc'
  have HR2 : Hid (kt.Rd w2 (some ⟨g', 16, none⟩) (l.length - 16) (l.drop 16)) := bl.hid (by have := H2.out.r.rd 16 (l.length - 16) (by omega); rwa [List.take_of_length_le (by rw [List.length_drop]; omega)] at this)
  clear hb hrd hc hc'
  by_cases hcp : 16 < cap'
  · go_wp2_with fail
    refine (same_yes _ _ _ _ _ _ _ _ _ HRD.out HR2.out rfl).mono ?_
    rintro e w' ⟨rfl, rfl⟩
    go_wp2
    go_ret
    exact ⟨rfl, hb2⟩
  · obtain rfl : cap' = 16 := by omega
    have HZ : Hid (kt.Rd w2 (some ⟨g', 0, none⟩) (l.length - 16) (l.drop 16)) := bl.hid ⟨HR2.out.1, HR2.out.2.1, .inl (by omega)⟩
    have HZ0 : Hid (kt.Rd w2 (some ⟨g', 0, none⟩) 0 (l.drop 16)) := bl.hid (by have := HZ.out; rwa [show l.length - 16 = 0 by omega] at this)
    go_wp2_with fail
    first | (with_reducible refine (same_yes _ _ _ _ _ _ _ _ _ HRD.out HZ0.out rfl).mono ?_) | (with_reducible refine (same_yes _ _ _ _ _ _ _ _ _ HRD.out HZ.out rfl).mono ?_) | trace_state
    rintro e w' ⟨rfl, rfl⟩
    go_wp2
    go_ret
    exact ⟨rfl, hb2⟩
end Go.Proofs.Ytkohmoekomegnaa
