/- Push and Pop, and the reference's, each by a contract. -/
import Derived.Test.YteemlbkbfngoeaaWalks
import Derived.WalkMore
namespace Go.Proofs.Yteemlbkbfngoeaa
open Go.RowKit
set_option linter.unusedVariables false

theorem push_ok (t r a f : Int) (w : World) (h1 : 0 ≤ r) (h2 : r ≤ 64) (h3 : 0 ≤ a) (h4 : a ≤ 4096) (t0 : 0 ≤ t) (t1 : t % 16 = 0) (t2 : t ≤ 65536) (f0 : 0 ≤ f) (f1 : f % 16 = 0) (f2 : f ≤ 65536) (hf : f + (8 * r + a + 15) / 16 * 16 ≤ t) :
    Calls Try.prog 16 #[.int .u64 t, .int .i64 r, .int .i64 a, .int .u64 f] w fun e w' => e = .returned (.tuple #[.int .u64 (t - (8 * r + a + 15) / 16 * 16), .int .i64 0]) ∧ w = w' := by
  go_enter Try.func16, Try.ntmps16
  go_wp2_with fail
  go_step3
  go_wp2_with fail
  refine (size_ok r a _ h1 h2 h3 h4).mono ?_
  rintro e w' ⟨rfl, rfl⟩
  go_wp2_with fail
  go_step3
  go_wp2_with fail
  refine (odd_no t _ t0 t1 t2).mono ?_
  rintro e w' ⟨rfl, rfl⟩
  go_wp2_with fail
  refine (odd_no f _ f0 f1 f2).mono ?_
  rintro e w' ⟨rfl, rfl⟩
  go_wp2_with fail
  rw [Exit.noGoto_ret]
  go_ret2
  exact ⟨rfl, rfl⟩

theorem push_full (t r a f : Int) (w : World) (h1 : 0 ≤ r) (h2 : r ≤ 64) (h3 : 0 ≤ a) (h4 : a ≤ 4096) (t0 : 0 ≤ t) (t1 : t % 16 = 0) (t2 : t ≤ 65536) (f0 : 0 ≤ f) (f1 : f % 16 = 0) (f2 : f ≤ 65536) (hf : t < f + (8 * r + a + 15) / 16 * 16) :
    Calls Try.prog 16 #[.int .u64 t, .int .i64 r, .int .i64 a, .int .u64 f] w fun e w' => e = .returned (.tuple #[.int .u64 0, .int .i64 8]) ∧ w = w' := by
  go_enter Try.func16, Try.ntmps16
  go_wp2_with fail
  go_step3
  go_wp2_with fail
  refine (size_ok r a _ h1 h2 h3 h4).mono ?_
  rintro e w' ⟨rfl, rfl⟩
  go_wp2_with fail
  go_step3
  go_wp2_with fail
  refine (odd_no t _ t0 t1 t2).mono ?_
  rintro e w' ⟨rfl, rfl⟩
  go_wp2_with fail
  refine (odd_no f _ f0 f1 f2).mono ?_
  rintro e w' ⟨rfl, rfl⟩
  go_wp2_with fail
  rw [Exit.noGoto_ret]
  go_ret2
  exact ⟨rfl, rfl⟩

theorem push_oddt (t r a f : Int) (w : World) (h1 : 0 ≤ r) (h2 : r ≤ 64) (h3 : 0 ≤ a) (h4 : a ≤ 4096) (t0 : 0 ≤ t) (ht : t % 16 ≠ 0 ∨ 65536 < t) :
    Calls Try.prog 16 #[.int .u64 t, .int .i64 r, .int .i64 a, .int .u64 f] w fun e w' => e = .returned (.tuple #[.int .u64 0, .int .i64 5]) ∧ w = w' := by
  go_enter Try.func16, Try.ntmps16
  have H := bl.hid ht
  clear ht
  go_wp2_with fail
  go_step3
  go_wp2_with fail
  refine (size_ok r a _ h1 h2 h3 h4).mono ?_
  rintro e w' ⟨rfl, rfl⟩
  go_wp2_with fail
  go_step3
  go_wp2_with fail
  refine (odd_yes t _ t0 H.out).mono ?_
  rintro e w' ⟨rfl, rfl⟩
  go_wp2_with fail
  rw [Exit.noGoto_ret]
  go_ret2
  exact ⟨rfl, rfl⟩

theorem push_oddf (t r a f : Int) (w : World) (h1 : 0 ≤ r) (h2 : r ≤ 64) (h3 : 0 ≤ a) (h4 : a ≤ 4096) (t0 : 0 ≤ t) (t1 : t % 16 = 0) (t2 : t ≤ 65536) (f0 : 0 ≤ f) (hf : f % 16 ≠ 0 ∨ 65536 < f) :
    Calls Try.prog 16 #[.int .u64 t, .int .i64 r, .int .i64 a, .int .u64 f] w fun e w' => e = .returned (.tuple #[.int .u64 0, .int .i64 5]) ∧ w = w' := by
  go_enter Try.func16, Try.ntmps16
  have H := bl.hid hf
  clear hf
  go_wp2_with fail
  go_step3
  go_wp2_with fail
  refine (size_ok r a _ h1 h2 h3 h4).mono ?_
  rintro e w' ⟨rfl, rfl⟩
  go_wp2_with fail
  go_step3
  go_wp2_with fail
  refine (odd_no t _ t0 t1 t2).mono ?_
  rintro e w' ⟨rfl, rfl⟩
  go_wp2_with fail
  refine (odd_yes f _ f0 H.out).mono ?_
  rintro e w' ⟨rfl, rfl⟩
  go_wp2_with fail
  rw [Exit.noGoto_ret]
  go_ret2
  exact ⟨rfl, rfl⟩

theorem push_no (t r a f : Int) (w : World) (h : r < 0 ∨ 64 < r ∨ a < 0 ∨ 4096 < a) :
    Calls Try.prog 16 #[.int .u64 t, .int .i64 r, .int .i64 a, .int .u64 f] w fun e w' => e = .returned (.tuple #[.int .u64 0, .int .i64 2]) ∧ w = w' := by
  go_enter Try.func16, Try.ntmps16
  have H := bl.hid h
  clear h
  go_wp2_with fail
  go_step3
  go_wp2_with fail
  refine (size_no r a _ H.out).mono ?_
  rintro e w' ⟨rfl, rfl⟩
  go_wp2_with fail
  go_step3
  go_wp2_with fail
  rw [Exit.noGoto_ret]
  go_ret2
  exact ⟨rfl, rfl⟩

theorem rpush_ok (t r a f : Int) (w : World) (h1 : 0 ≤ r) (h2 : r ≤ 64) (h3 : 0 ≤ a) (h4 : a ≤ 4096) (t0 : 0 ≤ t) (t1 : t % 16 = 0) (t2 : t ≤ 65536) (f0 : 0 ≤ f) (f1 : f % 16 = 0) (f2 : f ≤ 65536) (hf : f + (8 * r + a + 15) / 16 * 16 ≤ t) :
    Calls Try.prog 21 #[.int .u64 t, .int .i64 r, .int .i64 a, .int .u64 f] w fun e w' => e = .returned (.tuple #[.int .u64 (t - (8 * r + a + 15) / 16 * 16), .int .i64 0]) ∧ w = w' := by
  go_enter Try.func21, Try.ntmps21
  go_wp2_with fail
  refine (rsize_ok r a _ h1 h2 h3 h4).mono ?_
  rintro e w' ⟨rfl, rfl⟩
  go_wp2_with fail
  refine (place_yes t _ t0 t1 t2).mono ?_
  rintro e w' ⟨rfl, rfl⟩
  go_wp2_with fail
  refine (place_yes f _ f0 f1 f2).mono ?_
  rintro e w' ⟨rfl, rfl⟩
  go_wp2_with fail
  go_ret2
  exact ⟨rfl, rfl⟩

theorem rpush_full (t r a f : Int) (w : World) (h1 : 0 ≤ r) (h2 : r ≤ 64) (h3 : 0 ≤ a) (h4 : a ≤ 4096) (t0 : 0 ≤ t) (t1 : t % 16 = 0) (t2 : t ≤ 65536) (f0 : 0 ≤ f) (f1 : f % 16 = 0) (f2 : f ≤ 65536) (hf : t < f + (8 * r + a + 15) / 16 * 16) :
    Calls Try.prog 21 #[.int .u64 t, .int .i64 r, .int .i64 a, .int .u64 f] w fun e w' => e = .returned (.tuple #[.int .u64 0, .int .i64 8]) ∧ w = w' := by
  go_enter Try.func21, Try.ntmps21
  go_wp2_with fail
  refine (rsize_ok r a _ h1 h2 h3 h4).mono ?_
  rintro e w' ⟨rfl, rfl⟩
  go_wp2_with fail
  refine (place_yes t _ t0 t1 t2).mono ?_
  rintro e w' ⟨rfl, rfl⟩
  go_wp2_with fail
  refine (place_yes f _ f0 f1 f2).mono ?_
  rintro e w' ⟨rfl, rfl⟩
  go_wp2_with fail
  go_ret2
  exact ⟨rfl, rfl⟩

theorem rpush_oddt (t r a f : Int) (w : World) (h1 : 0 ≤ r) (h2 : r ≤ 64) (h3 : 0 ≤ a) (h4 : a ≤ 4096) (t0 : 0 ≤ t) (ht : t % 16 ≠ 0 ∨ 65536 < t) :
    Calls Try.prog 21 #[.int .u64 t, .int .i64 r, .int .i64 a, .int .u64 f] w fun e w' => e = .returned (.tuple #[.int .u64 0, .int .i64 5]) ∧ w = w' := by
  go_enter Try.func21, Try.ntmps21
  have H := bl.hid ht
  clear ht
  go_wp2_with fail
  refine (rsize_ok r a _ h1 h2 h3 h4).mono ?_
  rintro e w' ⟨rfl, rfl⟩
  go_wp2_with fail
  refine (place_no t _ t0 H.out).mono ?_
  rintro e w' ⟨rfl, rfl⟩
  go_wp2_with fail
  go_ret2
  exact ⟨rfl, rfl⟩

theorem rpush_oddf (t r a f : Int) (w : World) (h1 : 0 ≤ r) (h2 : r ≤ 64) (h3 : 0 ≤ a) (h4 : a ≤ 4096) (t0 : 0 ≤ t) (t1 : t % 16 = 0) (t2 : t ≤ 65536) (f0 : 0 ≤ f) (hf : f % 16 ≠ 0 ∨ 65536 < f) :
    Calls Try.prog 21 #[.int .u64 t, .int .i64 r, .int .i64 a, .int .u64 f] w fun e w' => e = .returned (.tuple #[.int .u64 0, .int .i64 5]) ∧ w = w' := by
  go_enter Try.func21, Try.ntmps21
  have H := bl.hid hf
  clear hf
  go_wp2_with fail
  refine (rsize_ok r a _ h1 h2 h3 h4).mono ?_
  rintro e w' ⟨rfl, rfl⟩
  go_wp2_with fail
  refine (place_yes t _ t0 t1 t2).mono ?_
  rintro e w' ⟨rfl, rfl⟩
  go_wp2_with fail
  refine (place_no f _ f0 H.out).mono ?_
  rintro e w' ⟨rfl, rfl⟩
  go_wp2_with fail
  go_ret2
  exact ⟨rfl, rfl⟩

theorem rpush_no (t r a f : Int) (w : World) (h : r < 0 ∨ 64 < r ∨ a < 0 ∨ 4096 < a) :
    Calls Try.prog 21 #[.int .u64 t, .int .i64 r, .int .i64 a, .int .u64 f] w fun e w' => e = .returned (.tuple #[.int .u64 0, .int .i64 2]) ∧ w = w' := by
  go_enter Try.func21, Try.ntmps21
  have H := bl.hid h
  clear h
  go_wp2_with fail
  refine (rsize_no r a _ H.out).mono ?_
  rintro e w' ⟨rfl, rfl⟩
  go_wp2_with fail
  go_ret2
  exact ⟨rfl, rfl⟩

theorem pop_ok (t r a : Int) (w : World) (h1 : 0 ≤ r) (h2 : r ≤ 64) (h3 : 0 ≤ a) (h4 : a ≤ 4096) (t0 : 0 ≤ t) (t1 : t % 16 = 0) (t2 : t ≤ 65536) :
    Calls Try.prog 22 #[.int .u64 t, .int .i64 r, .int .i64 a] w fun e w' => e = .returned (.tuple #[.int .u64 (t + (8 * r + a + 15) / 16 * 16), .int .i64 0]) ∧ w = w' := by
  go_enter Try.func22, Try.ntmps22
  go_wp2_with fail
  refine (size_ok r a _ h1 h2 h3 h4).mono ?_
  rintro e w' ⟨rfl, rfl⟩
  go_wp2_with fail
  refine (odd_no t _ t0 t1 t2).mono ?_
  rintro e w' ⟨rfl, rfl⟩
  go_wp2_with fail
  go_ret2
  exact ⟨rfl, rfl⟩

theorem pop_odd (t r a : Int) (w : World) (h1 : 0 ≤ r) (h2 : r ≤ 64) (h3 : 0 ≤ a) (h4 : a ≤ 4096) (t0 : 0 ≤ t) (ht : t % 16 ≠ 0 ∨ 65536 < t) :
    Calls Try.prog 22 #[.int .u64 t, .int .i64 r, .int .i64 a] w fun e w' => e = .returned (.tuple #[.int .u64 0, .int .i64 5]) ∧ w = w' := by
  go_enter Try.func22, Try.ntmps22
  have H := bl.hid ht
  clear ht
  go_wp2_with fail
  refine (size_ok r a _ h1 h2 h3 h4).mono ?_
  rintro e w' ⟨rfl, rfl⟩
  go_wp2_with fail
  refine (odd_yes t _ t0 H.out).mono ?_
  rintro e w' ⟨rfl, rfl⟩
  go_wp2_with fail
  go_ret2
  exact ⟨rfl, rfl⟩

theorem pop_no (t r a : Int) (w : World) (h : r < 0 ∨ 64 < r ∨ a < 0 ∨ 4096 < a) :
    Calls Try.prog 22 #[.int .u64 t, .int .i64 r, .int .i64 a] w fun e w' => e = .returned (.tuple #[.int .u64 0, .int .i64 2]) ∧ w = w' := by
  go_enter Try.func22, Try.ntmps22
  have H := bl.hid h
  clear h
  go_wp2_with fail
  refine (size_no r a _ H.out).mono ?_
  rintro e w' ⟨rfl, rfl⟩
  go_wp2_with fail
  go_ret2
  exact ⟨rfl, rfl⟩

theorem rpop_ok (t r a : Int) (w : World) (h1 : 0 ≤ r) (h2 : r ≤ 64) (h3 : 0 ≤ a) (h4 : a ≤ 4096) (t0 : 0 ≤ t) (t1 : t % 16 = 0) (t2 : t ≤ 65536) :
    Calls Try.prog 23 #[.int .u64 t, .int .i64 r, .int .i64 a] w fun e w' => e = .returned (.tuple #[.int .u64 (t + (8 * r + a + 15) / 16 * 16), .int .i64 0]) ∧ w = w' := by
  go_enter Try.func23, Try.ntmps23
  go_wp2_with fail
  refine (rsize_ok r a _ h1 h2 h3 h4).mono ?_
  rintro e w' ⟨rfl, rfl⟩
  go_wp2_with fail
  refine (place_yes t _ t0 t1 t2).mono ?_
  rintro e w' ⟨rfl, rfl⟩
  go_wp2_with fail
  go_ret2
  exact ⟨rfl, rfl⟩

theorem rpop_odd (t r a : Int) (w : World) (h1 : 0 ≤ r) (h2 : r ≤ 64) (h3 : 0 ≤ a) (h4 : a ≤ 4096) (t0 : 0 ≤ t) (ht : t % 16 ≠ 0 ∨ 65536 < t) :
    Calls Try.prog 23 #[.int .u64 t, .int .i64 r, .int .i64 a] w fun e w' => e = .returned (.tuple #[.int .u64 0, .int .i64 5]) ∧ w = w' := by
  go_enter Try.func23, Try.ntmps23
  have H := bl.hid ht
  clear ht
  go_wp2_with fail
  refine (rsize_ok r a _ h1 h2 h3 h4).mono ?_
  rintro e w' ⟨rfl, rfl⟩
  go_wp2_with fail
  refine (place_no t _ t0 H.out).mono ?_
  rintro e w' ⟨rfl, rfl⟩
  go_wp2_with fail
  go_ret2
  exact ⟨rfl, rfl⟩

theorem rpop_no (t r a : Int) (w : World) (h : r < 0 ∨ 64 < r ∨ a < 0 ∨ 4096 < a) :
    Calls Try.prog 23 #[.int .u64 t, .int .i64 r, .int .i64 a] w fun e w' => e = .returned (.tuple #[.int .u64 0, .int .i64 2]) ∧ w = w' := by
  go_enter Try.func23, Try.ntmps23
  have H := bl.hid h
  clear h
  go_wp2_with fail
  refine (rsize_no r a _ H.out).mono ?_
  rintro e w' ⟨rfl, rfl⟩
  go_wp2_with fail
  go_ret2
  exact ⟨rfl, rfl⟩
end Go.Proofs.Yteemlbkbfngoeaa
