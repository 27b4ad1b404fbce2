/- A slice of calls that came in (the statements' Act): what it is in the heap; Long by a contract. -/
import Derived.Test.YtkohmoekomegnaaMemPlain
namespace Go.Proofs.Ytkohmoekomegnaa
open Go.RowKit
set_option linter.unusedVariables false

namespace kt
structure Act where
  kind : Int
  n : Int
  at' : Int
  v : Int
  ba : Option Addr
  bl : Nat
  bc : Nat
  bs : List Int
/-- a call lies at place o of block b -/
structure ActAt (w : World) (b o : Nat) (x : Act) : Prop where
  c0 : w.cell? ⟨b, o, none⟩ = some (.int .i64 x.kind)
  c1 : w.cell? ⟨b, o + 1, none⟩ = some (.int .i64 x.n)
  c2 : w.cell? ⟨b, o + 2, none⟩ = some (.int .u64 x.at')
  c3 : w.cell? ⟨b, o + 3, none⟩ = some (.int .u64 x.v)
  c4 : w.cell? ⟨b, o + 4, none⟩ = some (.slice x.ba x.bl x.bc)
/-- a call's numbers are numbers, and its bytes read -/
structure ActOk (w : World) (x : Act) : Prop where
  k0 : -9223372036854775808 ≤ x.kind ∧ x.kind ≤ 9223372036854775807
  n0 : -9223372036854775808 ≤ x.n ∧ x.n ≤ 9223372036854775807
  a0 : 0 ≤ x.at' ∧ x.at' < 18446744073709551616
  v0 : 0 ≤ x.v ∧ x.v < 18446744073709551616
  rd : Rd w x.ba x.bl x.bs
  bm : x.bl ≤ 9223372036854775807
  bb : ∀ ad, x.ba = some ad → x.bl = 0 ∨ ad.block < w.heap.size
/-- a slice of calls that came in -/
def Acts (w : World) (a : Option Addr) (len : Nat) (xs : Nat → Act) : Prop :=
  len ≤ 9223372036854775807 ∧ (∀ i, i < len → ActOk w (xs i)) ∧ (len = 0 ∨ ∃ b off, a = some ⟨b, off, none⟩ ∧ ∀ i, i < len → ActAt w b (off + i * 5) (xs i))
theorem ActOk.keep {w w' : World} {x : Act} (h : ActOk w x) (hb : Below w.heap.size w w') : ActOk w' x :=
  ⟨h.k0, h.n0, h.a0, h.v0, h.rd.keep hb, h.bm, fun ad e => (h.bb ad e).imp_right fun g => Nat.lt_of_lt_of_le g hb.size⟩
theorem ActAt.keep {w w' : World} {b o : Nat} {x : Act} (h : ActAt w b o x) (hb : Below w.heap.size w w') : ActAt w' b o x :=
  ⟨(hb.cell (p := ⟨b, o, none⟩) (block_lt_of_cell h.c0)).trans h.c0, (hb.cell (p := ⟨b, o + 1, none⟩) (block_lt_of_cell h.c1)).trans h.c1, (hb.cell (p := ⟨b, o + 2, none⟩) (block_lt_of_cell h.c2)).trans h.c2,
    (hb.cell (p := ⟨b, o + 3, none⟩) (block_lt_of_cell h.c3)).trans h.c3, (hb.cell (p := ⟨b, o + 4, none⟩) (block_lt_of_cell h.c4)).trans h.c4⟩
theorem Acts.keep {w w' : World} {a : Option Addr} {len : Nat} {xs : Nat → Act} (h : Acts w a len xs) (hb : Below w.heap.size w w') : Acts w' a len xs := by
  refine ⟨h.1, fun i hi => (h.2.1 i hi).keep hb, ?_⟩
  rcases h.2.2 with h0 | ⟨b, off, e, hc⟩
  · exact .inl h0
  · exact .inr ⟨b, off, e, fun i hi => (hc i hi).keep hb⟩
theorem ActAt.cells {w wr : World} {b o : Nat} {kd xn xa xv : Int} {ba : Option Addr} {bn bc : Nat} {bs : List Int} (h : ActAt w b o ⟨kd, xn, xa, xv, ba, bn, bc, bs⟩) (hb : Below w.heap.size w wr) :
    wr.cell? ⟨b, o, none⟩ = some (.int .i64 kd) ∧ wr.cell? ⟨b, o + 1, none⟩ = some (.int .i64 xn) ∧ wr.cell? ⟨b, o + 2, none⟩ = some (.int .u64 xa) ∧ wr.cell? ⟨b, o + 3, none⟩ = some (.int .u64 xv) ∧ wr.cell? ⟨b, o + 4, none⟩ = some (.slice ba bn bc) := by
  obtain ⟨c0, c1, c2, c3, c4⟩ := h.keep hb
  exact ⟨c0, c1, c2, c3, c4⟩
/-- are the calls more than are gone through -/
def longB (len : Nat) (xs : Nat → Act) : Bool := decide (∃ i, i < len ∧ 200 < (xs i).bl) || decide (60 < len)
end kt
set_option maxHeartbeats 400000 in
theorem long_any (a : Option Addr) (len cap : Nat) (xs : Nat → kt.Act) (w : World) (h : kt.Acts w a len xs) :
    Calls Try.prog 21 #[.slice a len cap] w fun e w' => e = .returned (.bool (kt.longB len xs)) ∧ w = w' := by
  have H := bl.hid h
  have hlen := h.1
  clear h
  go_enter Try.func21, Try.ntmps21
  go_wp2
  go_loop [3] (fun i => ∃ k : Nat, k ≤ len ∧ i = .int .i64 k ∧ Hid (∀ j, j < k → (xs j).bl ≤ 200)) (fun i => len - (intOf i).toNat)
  case atStart => exact ⟨0, by omega, rfl, bl.hid fun j hj => by omega⟩
  case round =>
    obtain ⟨k, hk, rfl, hs⟩ := hrel
    by_cases hlt : k < len
    · obtain ⟨b, off, rfl, hc⟩ := H.out.2.2.resolve_left (by omega)
      have hx := hc k hlt
      have hok := H.out.2.1 k hlt
      have hc4 := hx.c4
      have hbm := hok.bm
      obtain ⟨ba, hba⟩ : ∃ ba, (xs k).ba = ba := ⟨_, rfl⟩
      obtain ⟨n, hn⟩ : ∃ n, (xs k).bl = n := ⟨_, rfl⟩
      obtain ⟨bc, hbc⟩ : ∃ bc, (xs k).bc = bc := ⟨_, rfl⟩
      rw [hba, hn, hbc] at hc4
      rw [hn] at hbm
      have HN := bl.hid hn
      clear hba hbc hn hx hok hc
      by_cases hb : 200 < n
      · have HE : Hid (kt.longB len xs = true) := bl.hid (by unfold kt.longB; rw [decide_eq_true ⟨k, hlt, by rw [HN.out]; exact hb⟩]; rfl)
        have hd : decide ((200 : Int) < (n : Int)) = true := decide_eq_true (by omega)
        go_wp2
        go_ret
        exact ⟨bl.ret1 (bl.bool_eq HE.out.symm), rfl⟩
      · have hd : decide ((200 : Int) < (n : Int)) = false := decide_eq_false (by omega)
        have HS : Hid (∀ j, j < k + 1 → (xs j).bl ≤ 200) := bl.hid fun j hj => by
          rcases Nat.lt_or_ge j k with g | g
          · exact hs.out j g
          · obtain rfl : j = k := by omega
            rw [HN.out]
            omega
        clear hs
        go_wp2
        go_round
        case rel => exact ⟨k + 1, by omega, by go_num, HS⟩
        case measure => simp [intOf]; omega
    · obtain rfl : k = len := by omega
      have HE : Hid (kt.longB k xs = decide (60 < k)) := bl.hid (by
        unfold kt.longB
        rw [decide_eq_false (by rintro ⟨i, hi, g⟩; have := hs.out i hi; omega)]
        rfl)
      clear hs
      go_wp2
      go_ret
      exact ⟨bl.ret1 (bl.bool_eq (by rw [HE.out]; simp; omega)), rfl⟩
end Go.Proofs.Ytkohmoekomegnaa
