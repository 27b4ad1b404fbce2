/- A machine beside the reference's: alike, walked. -/
import Derived.Test.YtjjkocklpcdbkaaGreatRsLoad
namespace Go.Proofs.YtjjkocklpcdbkaaGreat
open Go.RowKit
set_option linter.unusedVariables false
set_option maxRecDepth 100000
namespace st
theorem exec_len (i : In) (s : S) : (exec i s).2.l.length = s.l.length := by
  have hput : ∀ (s : S) n v, (s.put n v).l = s.l := by intro s n v; unfold S.put; split <;> rfl
  unfold exec
  split
  · show ((s.put _ _).nxt).l.length = _
    show (s.put _ _).l.length = _
    rw [hput]
  split
  · show (s.put _ _).l.length = _
    rw [hput]
  split
  · show (exBranch i s).l.length = _
    unfold exBranch
    split <;> rfl
  split
  · unfold exLoad
    split
    · rfl
    · show (s.put _ _).l.length = _
      rw [hput]
  split
  · unfold exStore
    split
    · rfl
    · show (pl.stL _ _ _ _).length = _
      exact pl.stL_length _ _ _ _
  split
  · show (s.put _ _).l.length = _
    rw [hput]
  · rfl
theorem step_len (code : Nat → Told) (n : Nat) (s : S) : (step code n s).2.l.length = s.l.length := by
  unfold step
  split
  · rfl
  split
  · rfl
  split
  · rfl
  exact exec_len _ _
theorem runS_len (code : Nat → Told) (n : Nat) (s : S) : ∀ k, (runS code n s k).2.2.l.length = s.l.length
  | 0 => rfl
  | k + 1 => by
    have ih := runS_len code n s k
    unfold runS
    split
    · exact ih
    · split
      · show (step code n _).2.l.length = _
        rw [step_len, ih]
      · show (step code n _).2.l.length = _
        rw [step_len, ih]
theorem set_len (s : S) (n v : Int) : (s.set n v).l.length = s.l.length := by
  unfold S.set S.put
  split
  · split <;> rfl
  · rfl
theorem setsS_len (s : S) (f : Nat → Int) : ∀ k, (setsS s f k).l.length = s.l.length
  | 0 => rfl
  | k + 1 => by
    show ((setsS s f k).set k (f k)).l.length = _
    rw [set_len, setsS_len s f k]
theorem begS_len (x : kt.Start) : (begS x).l.length = 128 := by
  have h : (setsS (S0 (pl.layL (List.replicate 128 0) 16 x.bl)) x.rf x.rn).l.length = 128 := by
    rw [setsS_len]
    show (pl.layL (List.replicate 128 0) 16 x.bl).length = 128
    rw [pl.layL_length]
    exact List.length_replicate
  unfold begS
  split
  · exact h
  · exact h
end st
/-- both machines, and what holds them -/
structure IsPair (w : World) (P P' : st.Pl) (code : Nat → st.Told) (f : Nat → Int) (pb : Nat) (s s' : st.S) : Prop where
  m : IsMach w P code s
  r : IsRM w P' f s'
  gg : P.g ≠ P'.g
  row : w.heap[pb]? = some (.cells #[.pointer (some ⟨P.p, 0, none⟩), .pointer (some ⟨P'.p, 0, none⟩), .pointer (some ⟨P.mp, 0, none⟩), .pointer (some ⟨P'.mp, 0, none⟩)] 39 (0, 0))
section
variable {w w' : World} {P P' : st.Pl} {code : Nat → st.Told} {f : Nat → Int} {pb : Nat} {s s' s2 : st.S}
theorem IsPair.keep (h : IsPair w P P' code f pb s s') (hb : Below w.heap.size w w') : IsPair w' P P' code f pb s s' :=
  ⟨h.m.keep hb, h.r.keep hb, h.gg, (hb.block _ (Array.getElem?_eq_some_iff.1 h.row).1).trans h.row⟩
theorem IsPair.lt (h : IsPair w P P' code f pb s s') : pb < w.heap.size := (Array.getElem?_eq_some_iff.1 h.row).1
/-- the machine turns -/
theorem IsPair.turnM (h : IsPair w P P' code f pb s s') (hm : IsMach w' P code s2) (hb : But2 P.p P.g w w') : IsPair w' P P' code f pb s2 s' := by
  obtain ⟨rest, hg⟩ := h.m.mem.row
  obtain ⟨rest', hg'⟩ := h.r.mem.row
  obtain ⟨cap', _, hh'⟩ := h.r.mem.head
  have key : ∀ b, b < w.heap.size → b ≠ P.p → b ≠ P.g → w'.heap[b]? = w.heap[b]? := fun b h1 h2 h3 => hb.block b h2 h3 h1
  refine ⟨hm, ⟨?_, ?_, h.r.words, ?_, h.r.ok, h.r.small⟩, h.gg, ?_⟩
  · rw [key _ h.r.lt (type_ne h.r.row h.m.row (by decide)) (type_ne h.r.row hg (by decide))]
    exact h.r.row
  · exact h.r.mem.kept (key _ h.r.mem.lt.1 (type_ne hh' h.m.row (by decide)) (type_ne hh' hg (by decide))) (key _ h.r.mem.lt.2 (type_ne hg' h.m.row (by decide)) h.gg.symm)
  · rcases h.r.told with h0 | ⟨b, e, r, h1⟩
    · exact .inl h0
    · exact .inr ⟨b, e, r, (key _ (Array.getElem?_eq_some_iff.1 h1).1 (type_ne h1 h.m.row (by decide)) (type_ne h1 hg (by decide))).trans h1⟩
  · rw [key _ h.lt (type_ne h.row h.m.row (by decide)) (type_ne h.row hg (by decide))]
    exact h.row
/-- the reference's turns -/
theorem IsPair.turnR (h : IsPair w P P' code f pb s s') (hr : IsRM w' P' f s2) (hb : But2 P'.p P'.g w w') : IsPair w' P P' code f pb s s2 := by
  obtain ⟨rest, hg⟩ := h.m.mem.row
  obtain ⟨rest', hg'⟩ := h.r.mem.row
  obtain ⟨cap, _, hh⟩ := h.m.mem.head
  have key : ∀ b, b < w.heap.size → b ≠ P'.p → b ≠ P'.g → w'.heap[b]? = w.heap[b]? := fun b h1 h2 h3 => hb.block b h2 h3 h1
  refine ⟨⟨?_, ?_, ?_, ?_, h.m.ok, h.m.ins, h.m.small⟩, hr, h.gg, ?_⟩
  · rw [key _ h.m.lt (type_ne h.m.row h.r.row (by decide)) (type_ne h.m.row hg' (by decide))]
    exact h.m.row
  · exact h.m.mem.kept (key _ h.m.mem.lt.1 (type_ne hh h.r.row (by decide)) (type_ne hh hg' (by decide))) (key _ h.m.mem.lt.2 (type_ne hg h.r.row (by decide)) h.gg)
  · exact h.m.deeds.kept (key _ h.m.deeds.lt (fun e => h.m.deeds.is_map (e ▸ h.r.row)) (fun e => h.m.deeds.is_map (e ▸ hg')))
  · refine h.m.told.kept (fun b _ hl hc => ?_)
    obtain ⟨cs, hc⟩ := hc
    exact key _ hl (type_ne hc h.r.row (by decide)) (type_ne hc hg' (by decide))
  · rw [key _ h.lt (type_ne h.row h.r.row (by decide)) (type_ne h.row hg' (by decide))]
    exact h.row
theorem IsPair.xC (h : IsPair w P P' code f pb s s') : w.cell? ⟨pb, 0, none⟩ = some (.pointer (some ⟨P.p, 0, none⟩)) := (cell_of_row _ _ _ _ _ _ h.row).trans rfl
theorem IsPair.wC (h : IsPair w P P' code f pb s s') : w.cell? ⟨pb, 1, none⟩ = some (.pointer (some ⟨P'.p, 0, none⟩)) := (cell_of_row _ _ _ _ _ _ h.row).trans rfl
theorem IsPair.mC (h : IsPair w P P' code f pb s s') : w.cell? ⟨pb, 2, none⟩ = some (.pointer (some ⟨P.mp, 0, none⟩)) := (cell_of_row _ _ _ _ _ _ h.row).trans rfl
theorem IsPair.nC (h : IsPair w P P' code f pb s s') : w.cell? ⟨pb, 3, none⟩ = some (.pointer (some ⟨P'.mp, 0, none⟩)) := (cell_of_row _ _ _ _ _ _ h.row).trans rfl
end
namespace pl
theorem keep_all (L : List Int) (s : Nat) (hl : L.length = s) (hs : 16 ≤ s) : byL L 16 (s - 16) = L.drop 16 ∧ byE L 16 (s - 16) = 0 := by
  have hf : fit L 16 ((s : Int) - 16) = true := decide_eq_true (by omega)
  have h0 : 0 ≤ (s : Int) - 16 := by omega
  refine ⟨?_, by rw [byE, if_pos h0, if_pos hf]⟩
  rw [byL, if_pos hf]
  exact List.take_of_length_le (by rw [List.length_drop]; omega)
end pl
/-- all bytes but nobody's, told in new memory -/
def TellK (t : Nat) (L : List Int) (w : World) (e : Ending) (w' : World) : Prop :=
  ∃ a c, e = .returned (.tuple #[.slice a t c, .int .i64 0]) ∧ kt.Rd w' a t (L.drop 16) ∧ Below w.heap.size w w'
theorem bytes_all (p g t : Nat) (L : List Int) (w : World) (h : IsMem w p g L) (hs : L.length = 16 + t) : Calls Tryz.prog 51 #[.pointer (some ⟨p, 0, none⟩), .int .u64 16, .int .i64 ((L.length : Int) - 16)] w (TellK t L w) := by
  have K := pl.keep_all L L.length rfl (by omega)
  have hb := h.bytes
  have hL := h.size
  refine (bytes_any p g 16 ((L.length : Int) - 16) L w h (by omega) (by omega) (by omega)).mono fun e w' q => ?_
  rw [K.1, K.2] at q
  obtain ⟨a, c, rfl, hown, hbl⟩ := q
  have hlen : (L.drop 16).length = t := by rw [List.length_drop]; omega
  exact ⟨a, c, by rw [hlen], by have := Rd_own (wd.isBytes_drop hb 16) hown; rwa [hlen] at this, hbl⟩
set_option maxRecDepth 100000 in
set_option maxHeartbeats 1600000 in
theorem malike_any (p g p' g' : Nat) (l : List Int) (w : World) (hm : IsMem w p g l) (hr : IsRef w p' g' l) (hl : 16 ≤ l.length) :
    Calls Tryz.prog 29 #[.pointer (some ⟨p, 0, none⟩), .pointer (some ⟨p', 0, none⟩)] w fun e w' => e = .returned (.bool true) ∧ Below w.heap.size w w' := by
  obtain ⟨cap, hcap, hc⟩ := hm.cell
  obtain ⟨cap', hcap', hc'⟩ := hr.cell
  obtain ⟨t, ht⟩ : ∃ t, l.length = 16 + t := ⟨l.length - 16, by omega⟩
  have hL := hm.size
  have HT := bl.hid ht
  have HC : Hid (∀ n, (w.drewN n).cell? ⟨p, 0, none⟩ = some (.slice (some ⟨g, 0, none⟩) l.length cap)) := bl.hid fun n => by simpa using hc
  have HMm := bl.hid hm
  have HRr := bl.hid hr
  have HDr : Hid (∀ n, Below w.heap.size w (w.drewN n)) := bl.hid (fun n => (Below.refl _ _).drewN' n)
  clear hm hr ht
  go_enter Tryz.func29, Tryz.ntmps29
  go_wp2_with fail
  go_quiet ((go_at_call 50; exact Calls.quiet_of_same ((size_any p g l.length cap _ (HC.out _)).mono fun e w' q => ⟨q.1, q.2.symm⟩)))
  go_wp2_with fail
  refine (bytes_all p g t l _ (HMm.out.keep (HDr.out _)) HT.out).mono ?_
  rintro e w2 ⟨a, c, rfl, hrd, hb⟩
  have hb2 : Below w.heap.size w w2 := (HDr.out _).trans hb
  have H2 := bl.hid (HRr.out.keep hb2)
  have HRD := bl.hid hrd
  have c2 := (hb2.cell (p := ⟨p', 0, none⟩) HRr.out.lt.1).trans hc'
  have HR2 : Hid (kt.Rd w2 (some ⟨g', 16, none⟩) (l.length - 16) (l.drop 16)) := bl.hid (by have := H2.out.rd 16 (l.length - 16) (by omega); rwa [List.take_of_length_le (by rw [List.length_drop]; omega)] at this)
  clear hb hrd hc hc'
  by_cases hcp : 16 < cap'
  · go_wp2_with fail
    refine (same_yes _ _ _ _ _ _ _ _ _ HRD.out HR2.out rfl).mono ?_
    rintro e w' ⟨rfl, rfl⟩
    go_wp2
    go_ret
    exact ⟨rfl, hb2⟩
  · obtain rfl : cap' = 16 := by omega
    have HZ : Hid (kt.Rd w2 (some ⟨g', 0, none⟩) (l.length - 16) (l.drop 16)) := bl.hid ⟨HR2.out.1, HR2.out.2.1, .inl (by omega)⟩
    have HZ0 : Hid (kt.Rd w2 (some ⟨g', 0, none⟩) 0 (l.drop 16)) := bl.hid (by have := HZ.out; rwa [show l.length - 16 = 0 by omega] at this)
    go_wp2_with fail
    first | (with_reducible refine (same_yes _ _ _ _ _ _ _ _ _ HRD.out HZ0.out rfl).mono ?_) | (with_reducible refine (same_yes _ _ _ _ _ _ _ _ _ HRD.out HZ.out rfl).mono ?_)
    rintro e w' ⟨rfl, rfl⟩
    go_wp2
    go_ret
    exact ⟨rfl, hb2⟩
set_option maxHeartbeats 3200000 in
theorem palike_any (w : World) (P P' : st.Pl) (code : Nat → st.Told) (f : Nat → Int) (pb : Nat) (s : st.S) (h : IsPair w P P' code f pb s s) (hl : 16 ≤ s.l.length) :
    Calls Tryz.prog 8 #[.pointer (some ⟨pb, 0, none⟩)] w fun e w' => e = .returned (.bool true) ∧ Below w.heap.size w w' := by
  have HH := bl.hid h
  have hlt := h.lt
  have HDr : Hid (∀ n, Below w.heap.size w (w.drewN n)) := bl.hid (fun n => (Below.refl _ _).drewN' n)
  have HX : Hid (∀ wr, IsPair wr P P' code f pb s s → ∀ k : Int, -1 ≤ k → k ≤ 32 → ∀ n, Calls Tryz.prog 19 #[.pointer (some ⟨P.p, 0, none⟩), .int .i64 k] (wr.drewN n) fun e w' => e = .returned (.int .u64 (s.reg k)) ∧ ∃ j, w' = wr.drewN j) := bl.hid (fun wr hw k h1 h2 n => (reg_any (wr.drewN n) P code s k (hw.m.drewN n) (by omega)).mono (fun e w' q => ⟨q.1, by obtain ⟨j, hj⟩ := q.2; exact ⟨n + j, by rw [hj, World.drewN_drewN]⟩⟩))
  have HY : Hid (∀ wr, IsPair wr P P' code f pb s s → ∀ k : Int, -1 ≤ k → k ≤ 32 → ∀ n, Calls Tryz.prog 28 #[.pointer (some ⟨P'.p, 0, none⟩), .int .i64 k] (wr.drewN n) fun e w' => e = .returned (.int .u64 (s.reg k)) ∧ ∃ j, w' = wr.drewN j) := bl.hid (fun wr hw k h1 h2 n => (rsreg_any (wr.drewN n) P' f s k (hw.r.drewN n) (by omega)).mono (fun e w' q => ⟨q.1, by obtain ⟨j, hj⟩ := q.2; exact ⟨n + j, by rw [hj, World.drewN_drewN]⟩⟩))
  clear h
  go_enter Tryz.func8, Tryz.ntmps8
  go_wp2
  go_loopw [3] (fun v wr => ∃ k : Int, -1 ≤ k ∧ k ≤ 33 ∧ v = .int .i64 k ∧ IsPair wr P P' code f pb s s ∧ Below w.heap.size w wr) (fun v _ => (33 - intOf v).toNat)
  case atStart => exact ⟨-1, by omega, by omega, rfl, HH.out, Below.refl _ _⟩
  case round =>
    obtain ⟨k, hk1, hk2, rfl, hp, hb⟩ := hrel
    have xC := hp.xC
    have wC := hp.wC
    have HB := bl.hid hb
    have HP := bl.hid hp
    by_cases hlt2 : k ≤ 32
    · have HX1 := bl.hid (HX.out wr hp k hk1 hlt2)
      have HY1 := bl.hid (HY.out wr hp k hk1 hlt2)
      obtain ⟨V, hV⟩ : ∃ V, s.reg k = V := ⟨_, rfl⟩
      rw [hV] at HX1 HY1
      have HD : Hid (∀ n, Below wr.heap.size wr (wr.drewN n)) := bl.hid (fun n => (Below.refl _ _).drewN' n)
      clear hp hb hV
      go_wp2
      go_quiet ((first
        | (go_at_call 19; exact (HX1.out _))
        | (go_at_call 28; exact (HY1.out _))))
      go_wp2
      exact ⟨⟨k + 1, by omega, by omega, by go_num, HP.out.keep (HD.out _), HB.out.trans ((HD.out _).mono HB.out.size)⟩, by simp [intOf]; omega⟩
    · obtain rfl : k = 33 := by omega
      have mC := hp.mC
      have nC := hp.nC
      have pC := hp.r.pcC
      have HD : Hid (Below wr.heap.size wr wr.drew) := bl.hid (Below.refl _ _).drew
      have HPl : Hid (Calls Tryz.prog 20 #[.pointer (some ⟨P.p, 0, none⟩)] wr.drew fun e w' => e = .returned (.int .u64 s.pc) ∧ w' = wr.drew) := bl.hid (place_any wr.drew P code s (hp.m.keep HD.out))
      have HAl : Hid (Calls Tryz.prog 29 #[.pointer (some ⟨P.mp, 0, none⟩), .pointer (some ⟨P'.mp, 0, none⟩)] wr.drew fun e w' => e = .returned (.bool true) ∧ Below wr.heap.size wr w' ∧ w'.cell? ⟨pb, 0, none⟩ = some (.pointer (some ⟨P.p, 0, none⟩)) ∧ w'.cell? ⟨pb, 1, none⟩ = some (.pointer (some ⟨P'.p, 0, none⟩)) ∧ w'.cell? ⟨pb, 2, none⟩ = some (.pointer (some ⟨P.mp, 0, none⟩)) ∧ w'.cell? ⟨pb, 3, none⟩ = some (.pointer (some ⟨P'.mp, 0, none⟩)) ∧ w'.cell? ⟨P'.p, 32, none⟩ = some (.int .u64 s.pc)) := bl.hid ((malike_any P.mp P.g P'.mp P'.g s.l wr.drew (hp.m.keep HD.out).mem (hp.r.keep HD.out).mem hl).mono (fun e w' q => by
        have hb2 : Below wr.heap.size wr w' := HD.out.trans q.2
        have hq := hp.keep hb2
        exact ⟨q.1, hb2, hq.xC, hq.wC, hq.mC, hq.nC, hq.r.pcC⟩))
      obtain ⟨pc, hpc⟩ : ∃ pc, s.pc = pc := ⟨_, rfl⟩
      rw [hpc] at pC HPl HAl
      clear hp hb hpc
      go_wp2
      go_region_held3 (fun w' => w'.cell? ⟨pb, 0, none⟩ = some (.pointer (some ⟨P.p, 0, none⟩)) ∧ w'.cell? ⟨pb, 1, none⟩ = some (.pointer (some ⟨P'.p, 0, none⟩)) ∧ w'.cell? ⟨pb, 2, none⟩ = some (.pointer (some ⟨P.mp, 0, none⟩)) ∧ w'.cell? ⟨pb, 3, none⟩ = some (.pointer (some ⟨P'.mp, 0, none⟩)) ∧ w'.cell? ⟨P'.p, 32, none⟩ = some (.int .u64 pc)) ((first | with_reducible assumption | go_keep))
        ((first
          | (go_at_call 20; with_reducible refine HPl.out.mono ?_; rintro e w1 ⟨rfl, rfl⟩)
          | (go_at_call 29; with_reducible refine HAl.out.mono ?_; rintro e w2 ⟨rfl, hb2, e0, e1, e2, e3, e4⟩; have HB2 := bl.hid hb2; clear hb2)))
      go_wp2
      go_ret
      exact ⟨rfl, HB.out.trans (HB2.out.mono HB.out.size)⟩
end Go.Proofs.YtjjkocklpcdbkaaGreat
