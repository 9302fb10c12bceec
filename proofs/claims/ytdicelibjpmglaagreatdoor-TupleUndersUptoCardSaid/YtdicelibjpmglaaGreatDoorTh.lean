/-
  Layer 3: the program's order of two numbers; a float's key.
-/
import Derived.Test.YtdicelibjpmglaaGreatDoorTg
import Derived.Test.YtdicelibjpmglaaGreatDoorFl2
import Derived.Lib.Zigzag
namespace Go.Proofs.YtdicelibjpmglaaGreatDoor
open Go.RowKit
set_option linter.unusedVariables false
set_option linter.unusedSimpArgs false
attribute [local go_sem] run_store_float
open Tp (It)

set_option maxRecDepth 100000 in
theorem isnan_int (x : Int) (w : World) : Calls Tryz.prog 100 #[.int .i64 x] w fun e w' => e = .returned (.bool false) ∧ w = w' := by
  go_enter Tryz.func100, Tryz.ntmps100
  go_wp2_with fail
  go_ret
  exact ⟨ret_b (by simp), rfl⟩
set_option maxRecDepth 100000 in
theorem cmp_int (x y : Int) (w : World) : Calls Tryz.prog 74 #[.int .i64 x, .int .i64 y] w fun e w' => e = .returned (.int .i64 (Tp.cmpI x y)) ∧ w = w' := by
  have h1 := isnan_int
  rcases Int.lt_trichotomy x y with h | h | h
  · have a : decide (x < y) = true := by rw [decide_eq_true_iff]; omega
    have H := Lib.hid h
    clear h
    go_enter Tryz.func74, Tryz.ntmps74
    go_wp2_with fail
    refine (h1 _ _).mono ?_
    rintro e w' ⟨rfl, rfl⟩
    go_wp2_with fail
    refine (h1 _ _).mono ?_
    rintro e w' ⟨rfl, rfl⟩
    go_wp2_with fail
    go_ret
    exact ⟨ret_int (by have := H.out; unfold Tp.cmpI; rw [if_pos this]), rfl⟩
  · subst h
    have a : decide (x < x) = false := by rw [decide_eq_false_iff_not]; omega
    go_enter Tryz.func74, Tryz.ntmps74
    go_wp2_with fail
    refine (h1 _ _).mono ?_
    rintro e w' ⟨rfl, rfl⟩
    go_wp2_with fail
    refine (h1 _ _).mono ?_
    rintro e w' ⟨rfl, rfl⟩
    go_wp2_with fail
    go_ret
    exact ⟨ret_int (by unfold Tp.cmpI; rw [if_neg (by omega), if_neg (by omega)]), rfl⟩
  · have a : decide (x < y) = false := by rw [decide_eq_false_iff_not]; omega
    have b : decide (y < x) = true := by rw [decide_eq_true_iff]; omega
    have H := Lib.hid h
    clear h
    go_enter Tryz.func74, Tryz.ntmps74
    go_wp2_with fail
    refine (h1 _ _).mono ?_
    rintro e w' ⟨rfl, rfl⟩
    go_wp2_with fail
    refine (h1 _ _).mono ?_
    rintro e w' ⟨rfl, rfl⟩
    go_wp2_with fail
    go_ret
    exact ⟨ret_int (by have := H.out; unfold Tp.cmpI; rw [if_neg (by omega), if_pos this]), rfl⟩
set_option maxRecDepth 100000 in
theorem isnan_int64 (x : Int) (w : World) : Calls Tryz.prog 96 #[.int .i64 x] w fun e w' => e = .returned (.bool false) ∧ w = w' := by
  go_enter Tryz.func96, Tryz.ntmps96
  go_wp2_with fail
  go_ret
  exact ⟨ret_b (by simp), rfl⟩
set_option maxRecDepth 100000 in
theorem cmp_int64 (x y : Int) (w : World) : Calls Tryz.prog 69 #[.int .i64 x, .int .i64 y] w fun e w' => e = .returned (.int .i64 (Tp.cmpI x y)) ∧ w = w' := by
  have h1 := isnan_int64
  rcases Int.lt_trichotomy x y with h | h | h
  · have a : decide (x < y) = true := by rw [decide_eq_true_iff]; omega
    have H := Lib.hid h
    clear h
    go_enter Tryz.func69, Tryz.ntmps69
    go_wp2_with fail
    refine (h1 _ _).mono ?_
    rintro e w' ⟨rfl, rfl⟩
    go_wp2_with fail
    refine (h1 _ _).mono ?_
    rintro e w' ⟨rfl, rfl⟩
    go_wp2_with fail
    go_ret
    exact ⟨ret_int (by have := H.out; unfold Tp.cmpI; rw [if_pos this]), rfl⟩
  · subst h
    have a : decide (x < x) = false := by rw [decide_eq_false_iff_not]; omega
    go_enter Tryz.func69, Tryz.ntmps69
    go_wp2_with fail
    refine (h1 _ _).mono ?_
    rintro e w' ⟨rfl, rfl⟩
    go_wp2_with fail
    refine (h1 _ _).mono ?_
    rintro e w' ⟨rfl, rfl⟩
    go_wp2_with fail
    go_ret
    exact ⟨ret_int (by unfold Tp.cmpI; rw [if_neg (by omega), if_neg (by omega)]), rfl⟩
  · have a : decide (x < y) = false := by rw [decide_eq_false_iff_not]; omega
    have b : decide (y < x) = true := by rw [decide_eq_true_iff]; omega
    have H := Lib.hid h
    clear h
    go_enter Tryz.func69, Tryz.ntmps69
    go_wp2_with fail
    refine (h1 _ _).mono ?_
    rintro e w' ⟨rfl, rfl⟩
    go_wp2_with fail
    refine (h1 _ _).mono ?_
    rintro e w' ⟨rfl, rfl⟩
    go_wp2_with fail
    go_ret
    exact ⟨ret_int (by have := H.out; unfold Tp.cmpI; rw [if_neg (by omega), if_pos this]), rfl⟩
set_option maxRecDepth 100000 in
theorem isnan_uint64 (x : Int) (w : World) : Calls Tryz.prog 97 #[.int .u64 x] w fun e w' => e = .returned (.bool false) ∧ w = w' := by
  go_enter Tryz.func97, Tryz.ntmps97
  go_wp2_with fail
  go_ret
  exact ⟨ret_b (by simp), rfl⟩
set_option maxRecDepth 100000 in
theorem cmp_uint64 (x y : Int) (w : World) : Calls Tryz.prog 70 #[.int .u64 x, .int .u64 y] w fun e w' => e = .returned (.int .i64 (Tp.cmpI x y)) ∧ w = w' := by
  have h1 := isnan_uint64
  rcases Int.lt_trichotomy x y with h | h | h
  · have a : decide (x < y) = true := by rw [decide_eq_true_iff]; omega
    have H := Lib.hid h
    clear h
    go_enter Tryz.func70, Tryz.ntmps70
    go_wp2_with fail
    refine (h1 _ _).mono ?_
    rintro e w' ⟨rfl, rfl⟩
    go_wp2_with fail
    refine (h1 _ _).mono ?_
    rintro e w' ⟨rfl, rfl⟩
    go_wp2_with fail
    go_ret
    exact ⟨ret_int (by have := H.out; unfold Tp.cmpI; rw [if_pos this]), rfl⟩
  · subst h
    have a : decide (x < x) = false := by rw [decide_eq_false_iff_not]; omega
    go_enter Tryz.func70, Tryz.ntmps70
    go_wp2_with fail
    refine (h1 _ _).mono ?_
    rintro e w' ⟨rfl, rfl⟩
    go_wp2_with fail
    refine (h1 _ _).mono ?_
    rintro e w' ⟨rfl, rfl⟩
    go_wp2_with fail
    go_ret
    exact ⟨ret_int (by unfold Tp.cmpI; rw [if_neg (by omega), if_neg (by omega)]), rfl⟩
  · have a : decide (x < y) = false := by rw [decide_eq_false_iff_not]; omega
    have b : decide (y < x) = true := by rw [decide_eq_true_iff]; omega
    have H := Lib.hid h
    clear h
    go_enter Tryz.func70, Tryz.ntmps70
    go_wp2_with fail
    refine (h1 _ _).mono ?_
    rintro e w' ⟨rfl, rfl⟩
    go_wp2_with fail
    refine (h1 _ _).mono ?_
    rintro e w' ⟨rfl, rfl⟩
    go_wp2_with fail
    go_ret
    exact ⟨ret_int (by have := H.out; unfold Tp.cmpI; rw [if_neg (by omega), if_pos this]), rfl⟩
set_option maxRecDepth 100000 in
theorem isnan_kind (x : Int) (w : World) : Calls Tryz.prog 67 #[.int .u8 x] w fun e w' => e = .returned (.bool false) ∧ w = w' := by
  go_enter Tryz.func67, Tryz.ntmps67
  go_wp2_with fail
  go_ret
  exact ⟨ret_b (by simp), rfl⟩
set_option maxRecDepth 100000 in
theorem cmp_kind (x y : Int) (w : World) : Calls Tryz.prog 41 #[.int .u8 x, .int .u8 y] w fun e w' => e = .returned (.int .i64 (Tp.cmpI x y)) ∧ w = w' := by
  have h1 := isnan_kind
  rcases Int.lt_trichotomy x y with h | h | h
  · have a : decide (x < y) = true := by rw [decide_eq_true_iff]; omega
    have H := Lib.hid h
    clear h
    go_enter Tryz.func41, Tryz.ntmps41
    go_wp2_with fail
    refine (h1 _ _).mono ?_
    rintro e w' ⟨rfl, rfl⟩
    go_wp2_with fail
    refine (h1 _ _).mono ?_
    rintro e w' ⟨rfl, rfl⟩
    go_wp2_with fail
    go_ret
    exact ⟨ret_int (by have := H.out; unfold Tp.cmpI; rw [if_pos this]), rfl⟩
  · subst h
    have a : decide (x < x) = false := by rw [decide_eq_false_iff_not]; omega
    go_enter Tryz.func41, Tryz.ntmps41
    go_wp2_with fail
    refine (h1 _ _).mono ?_
    rintro e w' ⟨rfl, rfl⟩
    go_wp2_with fail
    refine (h1 _ _).mono ?_
    rintro e w' ⟨rfl, rfl⟩
    go_wp2_with fail
    go_ret
    exact ⟨ret_int (by unfold Tp.cmpI; rw [if_neg (by omega), if_neg (by omega)]), rfl⟩
  · have a : decide (x < y) = false := by rw [decide_eq_false_iff_not]; omega
    have b : decide (y < x) = true := by rw [decide_eq_true_iff]; omega
    have H := Lib.hid h
    clear h
    go_enter Tryz.func41, Tryz.ntmps41
    go_wp2_with fail
    refine (h1 _ _).mono ?_
    rintro e w' ⟨rfl, rfl⟩
    go_wp2_with fail
    refine (h1 _ _).mono ?_
    rintro e w' ⟨rfl, rfl⟩
    go_wp2_with fail
    go_ret
    exact ⟨ret_int (by have := H.out; unfold Tp.cmpI; rw [if_neg (by omega), if_pos this]), rfl⟩

theorem bx_hi (x : Nat) (hx : x < 9223372036854775808) : 9223372036854775808 ^^^ x = x + 9223372036854775808 := by
  have h := Nat.two_pow_add_eq_or_of_lt (i := 63) (b := x) (by simpa using hx) 1
  have e : 9223372036854775808 ^^^ x = 2 ^ 63 * 1 ||| x := by
    apply Nat.eq_of_testBit_eq
    intro i
    rw [Nat.testBit_xor, Nat.testBit_or, show (9223372036854775808 : Nat) = 2 ^ 63 * 1 by decide, Nat.mul_one, Nat.testBit_two_pow]
    by_cases hi : 63 = i
    · subst hi
      rw [Nat.testBit_lt_two_pow (show x < 2 ^ 63 by simpa using hx)]; simp
    · simp [hi]
  rw [e, ← h]
  omega
theorem u64_xor (a b : Nat) (ha : a < 18446744073709551616) (hb : b < 18446744073709551616) : bits .xor .u64 (a : Int) (b : Int) = ((a ^^^ b : Nat) : Int) := by
  have hx : a ^^^ b < 2 ^ 64 := Nat.xor_lt_two_pow (by omega) (by omega)
  show IntKind.u64.wrap ((BitVec.ofInt 64 (a : Int) ^^^ BitVec.ofInt 64 (b : Int)).toNat : Int) = _
  have e : ∀ c : Nat, c < 18446744073709551616 → (BitVec.ofInt 64 (c : Int)).toNat = c := fun c hc => by
    rw [BitVec.toNat_ofInt]; omega
  rw [BitVec.toNat_xor, e a ha, e b hb, IntKind.wrap_u64]
  omega
theorem xor_ones (f : Nat) (hf : U64 f) : bits .xor .u64 (f : Int) 18446744073709551615 = ((18446744073709551615 - f : Nat) : Int) := by
  have h := u64_xor f 18446744073709551615 hf (by omega)
  have h2 : f ^^^ 18446744073709551615 = 18446744073709551615 - f := by
    rw [Nat.xor_comm]; exact Lib.xor_ones64 f hf
  rw [h2] at h
  exact h
theorem xor_top (f : Nat) (hf : f < 9223372036854775808) : bits .xor .u64 (f : Int) 9223372036854775808 = ((f + 9223372036854775808 : Nat) : Int) := by
  have h := u64_xor f 9223372036854775808 (by omega) (by omega)
  have h2 : f ^^^ 9223372036854775808 = f + 9223372036854775808 := by
    rw [Nat.xor_comm]; exact bx_hi f hf
  rw [h2] at h
  exact h

set_option maxHeartbeats 1000000 in
set_option maxRecDepth 100000 in
theorem key_calls (f : Nat) (hf : U64 f) (w : World) : Calls Tryz.prog 71 #[.float .f64 f] w fun e w' => e = .returned (.int .u64 (Tp.key f)) ∧ w = w' := by
  have h50 := @run_callFunc_extern Tryz.prog 61 _ Extern.MathFloatBits.float64bits Tryz.func61 (by kernel_rfl) (by kernel_rfl) (by kernel_rfl) (by kernel_rfl)
  have hfb := fb_run
  have hself := Fl.order_self f hf
  have hx1 := xor_top 9221120237041090560 (by omega)
  have Hf := Lib.hid hf
  cases hn : Tp.nan f
  · rw [hn] at hself
    have HN := Lib.hid hn
    rcases Nat.lt_or_ge f 9223372036854775808 with h | h
    · have e1 : ((f : Int) / 9223372036854775808 == 1) = false := by rw [beq_eq_false_iff_ne]; omega
      have e2 := xor_top f h
      have HH := Lib.hid h
      clear h hf hn
      go_enter Tryz.func71, Tryz.ntmps71
      go_wp2_with fail
      go_ret
      refine ⟨ret_int ?_, rfl⟩
      have := HH.out
      first | rw [e2] | skip
      rw [Fl.key_num HN.out]
      unfold Fl.neg
      rw [decide_eq_false (by omega)]
      simp
    · have e1 : ((f : Int) / 9223372036854775808 == 1) = true := by rw [beq_iff_eq]; unfold U64 at hf; omega
      have e2 := xor_ones f hf
      have HH := Lib.hid h
      clear h hf hn
      go_enter Tryz.func71, Tryz.ntmps71
      go_wp2_with fail
      go_ret
      refine ⟨ret_int ?_, rfl⟩
      have := HH.out
      first | rw [e2] | skip
      rw [Fl.key_num HN.out]
      unfold Fl.neg
      rw [decide_eq_true (by omega)]
      simp
  · rw [hn] at hself
    have HN := Lib.hid hn
    clear hf hn
    go_enter Tryz.func71, Tryz.ntmps71
    go_wp2_with fail
    go_ret
    refine ⟨ret_int ?_, rfl⟩
    rw [Fl.key_nan HN.out]
    first | rfl | exact hx1 | decide
end Go.Proofs.YtdicelibjpmglaaGreatDoor
