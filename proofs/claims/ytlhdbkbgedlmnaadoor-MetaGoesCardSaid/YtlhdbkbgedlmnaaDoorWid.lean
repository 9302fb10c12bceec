/-
  pack.width: how many bytes a type's numbers have, at each type that the statements reach. Printed by gen_pack.py.
-/
import Derived.Test.YtlhdbkbgedlmnaaDoorRead
namespace Go.Proofs.YtlhdbkbgedlmnaaDoor
open Go.RowKit
set_option linter.unusedVariables false

/-- 1 shifted left n times -/
def tw (k : IntKind) (n : Nat) : Int := k.wrap (2 ^ n)
theorem tw_u (k : IntKind) (n : Nat) : k.wrap (tw k n * 2) = tw k (n + 1) := by
  unfold tw
  rw [Int.pow_succ]
  cases k <;> simp [IntKind.wrap, IntKind.bits, IntKind.signed] <;> omega
theorem tw_u8 (n : Nat) : tw .u8 n * 2 % 256 = tw .u8 (n + 1) := by have := tw_u .u8 n; simpa [IntKind.wrap, IntKind.bits, IntKind.signed] using this
theorem tw_u32 (n : Nat) : tw .u32 n * 2 % 4294967296 = tw .u32 (n + 1) := by have := tw_u .u32 n; simpa [IntKind.wrap, IntKind.bits, IntKind.signed] using this
theorem tw_u64 (n : Nat) : tw .u64 n * 2 % 18446744073709551616 = tw .u64 (n + 1) := by have := tw_u .u64 n; simpa [IntKind.wrap, IntKind.bits, IntKind.signed] using this
theorem tw_i32 (n : Nat) : wrap32 (tw .i32 n * 2) = tw .i32 (n + 1) := by
  unfold tw wrap32
  rw [Int.pow_succ]
  simp [IntKind.wrap, IntKind.bits, IntKind.signed]
  omega
theorem tw_i64 (n : Nat) : wrap64 (tw .i64 n * 2) = tw .i64 (n + 1) := by
  unfold tw wrap64
  rw [Int.pow_succ]
  simp [IntKind.wrap, IntKind.bits, IntKind.signed]
  omega

set_option maxHeartbeats 400000 in
set_option maxRecDepth 100000 in
theorem width_uint8 (w : World) : Calls Tryd.prog 61 #[] w fun e w' => e = .returned (.int .i64 1) ∧ w = w' := by
  go_enter Tryd.func61, Tryd.ntmps61
  go_wp2_with fail
  go_loop [1, 2] (fun nv xv => ∃ k : Nat, k ≤ 8 ∧ nv = .int .i64 k ∧ xv = .int .u8 (tw .u8 k)) (fun nv _ => 8 - (intOf nv).toNat)
  case atStart => exact ⟨0, by omega, rfl, rfl⟩
  case round =>
    obtain ⟨k, hk, rfl, rfl⟩ := hrel
    by_cases h : k < 8
    · have hne : (tw .u8 k != 0) = true := by
        have : ∀ j : Fin 8, (tw .u8 j.val != 0) = true := by decide +kernel
        exact this ⟨k, h⟩
      go_wp2_with fail
      go_roundw
      case rel => exact ⟨k + 1, by omega, by go_num, by first | rw [tw_u] | rw [tw_u8] | rw [tw_u32] | rw [tw_u64] | rw [tw_i32] | rw [tw_i64]⟩
      case measure => simp [intOf]; omega
    · obtain rfl : k = 8 := by omega
      have hz : (tw .u8 8 != 0) = false := by decide +kernel
      go_wp2_with fail
      go_ret
      exact ⟨rfl, rfl⟩

set_option maxHeartbeats 400000 in
set_option maxRecDepth 100000 in
theorem width_uint16 (w : World) : Calls Tryd.prog 62 #[] w fun e w' => e = .returned (.int .i64 2) ∧ w = w' := by
  go_enter Tryd.func62, Tryd.ntmps62
  go_wp2_with fail
  go_loop [1, 2] (fun nv xv => ∃ k : Nat, k ≤ 16 ∧ nv = .int .i64 k ∧ xv = .int .u16 (tw .u16 k)) (fun nv _ => 16 - (intOf nv).toNat)
  case atStart => exact ⟨0, by omega, rfl, rfl⟩
  case round =>
    obtain ⟨k, hk, rfl, rfl⟩ := hrel
    by_cases h : k < 16
    · have hne : (tw .u16 k != 0) = true := by
        have : ∀ j : Fin 16, (tw .u16 j.val != 0) = true := by decide +kernel
        exact this ⟨k, h⟩
      go_wp2_with fail
      go_roundw
      case rel => exact ⟨k + 1, by omega, by go_num, by first | rw [tw_u] | rw [tw_u8] | rw [tw_u32] | rw [tw_u64] | rw [tw_i32] | rw [tw_i64]⟩
      case measure => simp [intOf]; omega
    · obtain rfl : k = 16 := by omega
      have hz : (tw .u16 16 != 0) = false := by decide +kernel
      go_wp2_with fail
      go_ret
      exact ⟨rfl, rfl⟩

set_option maxHeartbeats 400000 in
set_option maxRecDepth 100000 in
theorem width_uint32 (w : World) : Calls Tryd.prog 60 #[] w fun e w' => e = .returned (.int .i64 4) ∧ w = w' := by
  go_enter Tryd.func60, Tryd.ntmps60
  go_wp2_with fail
  go_loop [1, 2] (fun nv xv => ∃ k : Nat, k ≤ 32 ∧ nv = .int .i64 k ∧ xv = .int .u32 (tw .u32 k)) (fun nv _ => 32 - (intOf nv).toNat)
  case atStart => exact ⟨0, by omega, rfl, rfl⟩
  case round =>
    obtain ⟨k, hk, rfl, rfl⟩ := hrel
    by_cases h : k < 32
    · have hne : (tw .u32 k != 0) = true := by
        have : ∀ j : Fin 32, (tw .u32 j.val != 0) = true := by decide +kernel
        exact this ⟨k, h⟩
      go_wp2_with fail
      go_roundw
      case rel => exact ⟨k + 1, by omega, by go_num, by first | rw [tw_u] | rw [tw_u8] | rw [tw_u32] | rw [tw_u64] | rw [tw_i32] | rw [tw_i64]⟩
      case measure => simp [intOf]; omega
    · obtain rfl : k = 32 := by omega
      have hz : (tw .u32 32 != 0) = false := by decide +kernel
      go_wp2_with fail
      go_ret
      exact ⟨rfl, rfl⟩

set_option maxHeartbeats 400000 in
set_option maxRecDepth 100000 in
theorem width_uint64 (w : World) : Calls Tryd.prog 63 #[] w fun e w' => e = .returned (.int .i64 8) ∧ w = w' := by
  go_enter Tryd.func63, Tryd.ntmps63
  go_wp2_with fail
  go_loop [1, 2] (fun nv xv => ∃ k : Nat, k ≤ 64 ∧ nv = .int .i64 k ∧ xv = .int .u64 (tw .u64 k)) (fun nv _ => 64 - (intOf nv).toNat)
  case atStart => exact ⟨0, by omega, rfl, rfl⟩
  case round =>
    obtain ⟨k, hk, rfl, rfl⟩ := hrel
    by_cases h : k < 64
    · have hne : (tw .u64 k != 0) = true := by
        have : ∀ j : Fin 64, (tw .u64 j.val != 0) = true := by decide +kernel
        exact this ⟨k, h⟩
      go_wp2_with fail
      go_roundw
      case rel => exact ⟨k + 1, by omega, by go_num, by first | rw [tw_u] | rw [tw_u8] | rw [tw_u32] | rw [tw_u64] | rw [tw_i32] | rw [tw_i64]⟩
      case measure => simp [intOf]; omega
    · obtain rfl : k = 64 := by omega
      have hz : (tw .u64 64 != 0) = false := by decide +kernel
      go_wp2_with fail
      go_ret
      exact ⟨rfl, rfl⟩

end Go.Proofs.YtlhdbkbgedlmnaaDoor
