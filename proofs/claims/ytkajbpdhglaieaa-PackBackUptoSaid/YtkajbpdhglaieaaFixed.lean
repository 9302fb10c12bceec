/-
  heartwoodlaw01.fixed: a fixed number that is read, as its lowest bytes without sign, one walk for each kind. Printed by gen_fixed.py.
-/
import Derived.Test.YtkajbpdhglaieaaTake
import Derived.Test.YtkajbpdhglaieaaTake8
namespace Go.Proofs.Ytkajbpdhglaieaa
open Go.RowKit
set_option linter.unusedVariables false

theorem num_le {k n : Nat} (l : List UInt8) (h : l.length ≤ k) (hn : 256 ^ k = n) : Pk.num l < n := by rw [← hn]; exact num_lt l k h
theorem rtake_lt (r : Pk.Rd) (k : Nat) : (r.take k).1 < 256 ^ k := by
  have hp : 0 < 256 ^ k := Nat.pow_pos (by omega)
  unfold Pk.Rd.take
  split
  · exact hp
  · split
    · exact hp
    · exact num_lt _ _ (by simp; omega)
/-- how many bytes fixed reads: 2 where the kind is none of the first eight -/
def fz (k : Int) : Nat := if k < 0 ∨ 7 < k then 2 else [1, 2, 4, 8, 1, 2, 4, 8].getD k.toNat 0

set_option maxHeartbeats 1000000 in
set_option maxRecDepth 100000 in
theorem fixed_0 (g : Nat) (k : Int) (r : Pk.Rd) (w : World) (h : IsR w g r) (hk : Hid (k = 0)) :
    Calls Try.prog 30 #[.pointer (some ⟨g, 0, none⟩), .int .i64 k] w fun e w' => e = .returned (.int .u64 (r.take 1).1) ∧ Red w w' g (r.take 1).2 := by
  obtain ⟨rfl⟩ := hk
  have hlt := rtake_lt r 1
  go_enter Try.func30, Try.ntmps30
  go_wp2_with fail
  refine (take_uint8 g r w h).mono ?_
  rintro e w' ⟨rfl, hr⟩
  go_wp2_with fail
  go_ret
  refine ⟨ret_int ?_, hr⟩
  generalize (r.take 1).1 = n at hlt ⊢
  simp [tk, IntKind.wrap, IntKind.bits, IntKind.signed]
  try omega

set_option maxHeartbeats 1000000 in
set_option maxRecDepth 100000 in
theorem fixed_1 (g : Nat) (k : Int) (r : Pk.Rd) (w : World) (h : IsR w g r) (hk : Hid (k = 1)) :
    Calls Try.prog 30 #[.pointer (some ⟨g, 0, none⟩), .int .i64 k] w fun e w' => e = .returned (.int .u64 (r.take 2).1) ∧ Red w w' g (r.take 2).2 := by
  obtain ⟨rfl⟩ := hk
  have hlt := rtake_lt r 2
  go_enter Try.func30, Try.ntmps30
  go_wp2_with fail
  refine (take_uint16 g r w h).mono ?_
  rintro e w' ⟨rfl, hr⟩
  go_wp2_with fail
  go_ret
  refine ⟨ret_int ?_, hr⟩
  generalize (r.take 2).1 = n at hlt ⊢
  simp [tk, IntKind.wrap, IntKind.bits, IntKind.signed]
  try omega

set_option maxHeartbeats 1000000 in
set_option maxRecDepth 100000 in
theorem fixed_2 (g : Nat) (k : Int) (r : Pk.Rd) (w : World) (h : IsR w g r) (hk : Hid (k = 2)) :
    Calls Try.prog 30 #[.pointer (some ⟨g, 0, none⟩), .int .i64 k] w fun e w' => e = .returned (.int .u64 (r.take 4).1) ∧ Red w w' g (r.take 4).2 := by
  obtain ⟨rfl⟩ := hk
  have hlt := rtake_lt r 4
  go_enter Try.func30, Try.ntmps30
  go_wp2_with fail
  refine (take_uint32 g r w h).mono ?_
  rintro e w' ⟨rfl, hr⟩
  go_wp2_with fail
  go_ret
  refine ⟨ret_int ?_, hr⟩
  generalize (r.take 4).1 = n at hlt ⊢
  simp [tk, IntKind.wrap, IntKind.bits, IntKind.signed]
  try omega

set_option maxHeartbeats 1000000 in
set_option maxRecDepth 100000 in
theorem fixed_3 (g : Nat) (k : Int) (r : Pk.Rd) (w : World) (h : IsR w g r) (hk : Hid (k = 3)) :
    Calls Try.prog 30 #[.pointer (some ⟨g, 0, none⟩), .int .i64 k] w fun e w' => e = .returned (.int .u64 (r.take 8).1) ∧ Red w w' g (r.take 8).2 := by
  obtain ⟨rfl⟩ := hk
  have hlt := rtake_lt r 8
  go_enter Try.func30, Try.ntmps30
  go_wp2_with fail
  refine (take_uint64 g r w h).mono ?_
  rintro e w' ⟨rfl, hr⟩
  go_wp2_with fail
  go_ret
  refine ⟨ret_int ?_, hr⟩
  generalize (r.take 8).1 = n at hlt ⊢
  simp [tk, IntKind.wrap, IntKind.bits, IntKind.signed]
  try omega

set_option maxHeartbeats 1000000 in
set_option maxRecDepth 100000 in
theorem fixed_4 (g : Nat) (k : Int) (r : Pk.Rd) (w : World) (h : IsR w g r) (hk : Hid (k = 4)) :
    Calls Try.prog 30 #[.pointer (some ⟨g, 0, none⟩), .int .i64 k] w fun e w' => e = .returned (.int .u64 (r.take 1).1) ∧ Red w w' g (r.take 1).2 := by
  obtain ⟨rfl⟩ := hk
  have hlt := rtake_lt r 1
  go_enter Try.func30, Try.ntmps30
  go_wp2_with fail
  refine (take_int8 g r w h).mono ?_
  rintro e w' ⟨rfl, hr⟩
  go_wp2_with fail
  go_ret
  refine ⟨ret_int ?_, hr⟩
  generalize (r.take 1).1 = n at hlt ⊢
  simp [tk, IntKind.wrap, IntKind.bits, IntKind.signed]
  try omega

set_option maxHeartbeats 1000000 in
set_option maxRecDepth 100000 in
theorem fixed_5 (g : Nat) (k : Int) (r : Pk.Rd) (w : World) (h : IsR w g r) (hk : Hid (k = 5)) :
    Calls Try.prog 30 #[.pointer (some ⟨g, 0, none⟩), .int .i64 k] w fun e w' => e = .returned (.int .u64 (r.take 2).1) ∧ Red w w' g (r.take 2).2 := by
  obtain ⟨rfl⟩ := hk
  have hlt := rtake_lt r 2
  go_enter Try.func30, Try.ntmps30
  go_wp2_with fail
  refine (take_int16 g r w h).mono ?_
  rintro e w' ⟨rfl, hr⟩
  go_wp2_with fail
  go_ret
  refine ⟨ret_int ?_, hr⟩
  generalize (r.take 2).1 = n at hlt ⊢
  simp [tk, IntKind.wrap, IntKind.bits, IntKind.signed]
  try omega

set_option maxHeartbeats 1000000 in
set_option maxRecDepth 100000 in
theorem fixed_6 (g : Nat) (k : Int) (r : Pk.Rd) (w : World) (h : IsR w g r) (hk : Hid (k = 6)) :
    Calls Try.prog 30 #[.pointer (some ⟨g, 0, none⟩), .int .i64 k] w fun e w' => e = .returned (.int .u64 (r.take 4).1) ∧ Red w w' g (r.take 4).2 := by
  obtain ⟨rfl⟩ := hk
  have hlt := rtake_lt r 4
  go_enter Try.func30, Try.ntmps30
  go_wp2_with fail
  refine (take_int32 g r w h).mono ?_
  rintro e w' ⟨rfl, hr⟩
  go_wp2_with fail
  go_ret
  refine ⟨ret_int ?_, hr⟩
  generalize (r.take 4).1 = n at hlt ⊢
  simp [tk, IntKind.wrap, IntKind.bits, IntKind.signed]
  try omega

set_option maxHeartbeats 1000000 in
set_option maxRecDepth 100000 in
theorem fixed_7 (g : Nat) (k : Int) (r : Pk.Rd) (w : World) (h : IsR w g r) (hk : Hid (k = 7)) :
    Calls Try.prog 30 #[.pointer (some ⟨g, 0, none⟩), .int .i64 k] w fun e w' => e = .returned (.int .u64 (r.take 8).1) ∧ Red w w' g (r.take 8).2 := by
  obtain ⟨rfl⟩ := hk
  have hlt := rtake_lt r 8
  go_enter Try.func30, Try.ntmps30
  go_wp2_with fail
  refine (take_int64 g r w h).mono ?_
  rintro e w' ⟨rfl, hr⟩
  go_wp2_with fail
  go_ret
  refine ⟨ret_int ?_, hr⟩
  generalize (r.take 8).1 = n at hlt ⊢
  simp [tk, IntKind.wrap, IntKind.bits, IntKind.signed]
  try omega

set_option maxHeartbeats 1000000 in
set_option maxRecDepth 100000 in
theorem fixed_no (g : Nat) (k : Int) (r : Pk.Rd) (w : World) (h : IsR w g r) (hk : ∀ j : Nat, j ≤ 7 → k ≠ j) :
    Calls Try.prog 30 #[.pointer (some ⟨g, 0, none⟩), .int .i64 k] w fun e w' => e = .returned (.int .u64 (r.take 2).1) ∧ Red w w' g (r.take 2).2 := by
  have q0 : (k == 0) = false := by rw [beq_eq_false_iff_ne]; exact hk 0 (by omega)
  have q1 : (k == 1) = false := by rw [beq_eq_false_iff_ne]; exact hk 1 (by omega)
  have q2 : (k == 2) = false := by rw [beq_eq_false_iff_ne]; exact hk 2 (by omega)
  have q3 : (k == 3) = false := by rw [beq_eq_false_iff_ne]; exact hk 3 (by omega)
  have q4 : (k == 4) = false := by rw [beq_eq_false_iff_ne]; exact hk 4 (by omega)
  have q5 : (k == 5) = false := by rw [beq_eq_false_iff_ne]; exact hk 5 (by omega)
  have q6 : (k == 6) = false := by rw [beq_eq_false_iff_ne]; exact hk 6 (by omega)
  have q7 : (k == 7) = false := by rw [beq_eq_false_iff_ne]; exact hk 7 (by omega)
  clear hk
  have hlt := rtake_lt r 2
  go_enter Try.func30, Try.ntmps30
  go_wp2_with fail
  refine (take_shade g r w h).mono ?_
  rintro e w' ⟨rfl, hr⟩
  go_wp2_with fail
  go_ret
  refine ⟨ret_int ?_, hr⟩
  generalize (r.take 2).1 = n at hlt ⊢
  simp [tk, IntKind.wrap, IntKind.bits, IntKind.signed]
  try omega

theorem fixed_calls (g : Nat) (k : Int) (r : Pk.Rd) (w : World) (h : IsR w g r) :
    Calls Try.prog 30 #[.pointer (some ⟨g, 0, none⟩), .int .i64 k] w fun e w' => e = .returned (.int .u64 (r.take (fz k)).1) ∧ Red w w' g (r.take (fz k)).2 := by
  by_cases hno : k < 0 ∨ 7 < k
  · have hz : fz k = 2 := by unfold fz; rw [if_pos hno]
    rw [hz]
    exact fixed_no g k r w h (fun j hj => by omega)
  · obtain ⟨j, rfl⟩ : ∃ j : Nat, k = j := ⟨k.toNat, by omega⟩
    have hj : j ≤ 7 := by omega
    match j, hj with
    | 0, _ => exact fixed_0 g _ r w h (Lib.hid rfl)
    | 1, _ => exact fixed_1 g _ r w h (Lib.hid rfl)
    | 2, _ => exact fixed_2 g _ r w h (Lib.hid rfl)
    | 3, _ => exact fixed_3 g _ r w h (Lib.hid rfl)
    | 4, _ => exact fixed_4 g _ r w h (Lib.hid rfl)
    | 5, _ => exact fixed_5 g _ r w h (Lib.hid rfl)
    | 6, _ => exact fixed_6 g _ r w h (Lib.hid rfl)
    | 7, _ => exact fixed_7 g _ r w h (Lib.hid rfl)
    | _ + 8, h => exact absurd h (by omega)
end Go.Proofs.Ytkajbpdhglaieaa
