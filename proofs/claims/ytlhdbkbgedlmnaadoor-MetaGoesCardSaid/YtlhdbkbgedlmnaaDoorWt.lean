/-
  pack.Writer: New, Text, Signed, Len, String.
-/
import Derived.Test.YtlhdbkbgedlmnaaDoorWr
namespace Go.Proofs.YtlhdbkbgedlmnaaDoor
open Go.RowKit
set_option linter.unusedVariables false

/-- a number that fits an int64 -/
def I64 (n : Int) : Prop := -9223372036854775808 ≤ n ∧ n < 9223372036854775808
theorem zig_u64 (n : Int) (h : I64 n) : U64 (Pk.zig n) := by
  unfold I64 at h; unfold U64 Pk.zig; split <;> omega
theorem xor_ones (a : Nat) (h : a < 18446744073709551616) : a ^^^ 18446744073709551615 = 18446744073709551615 - a := by
  have h1 : (BitVec.ofNat 64 a ^^^ BitVec.allOnes 64).toNat = a ^^^ 18446744073709551615 := by
    rw [BitVec.toNat_xor, BitVec.toNat_ofNat, BitVec.toNat_allOnes, Nat.mod_eq_of_lt h]
  rw [← h1, BitVec.xor_allOnes, BitVec.toNat_not, BitVec.toNat_ofNat, Nat.mod_eq_of_lt h]
theorem zig_bits (n : Int) (h : I64 n) : bits BinOp.xor IntKind.u64 (IntKind.u64.wrap (IntKind.u64.wrap n * 2)) (IntKind.u64.wrap (n / 9223372036854775808)) = ((Pk.zig n : Nat) : Int) := by
  unfold I64 at h
  rw [IntKind.wrap_u64, IntKind.wrap_u64, IntKind.wrap_u64]
  by_cases h0 : 0 ≤ n
  · have e1 : n / 9223372036854775808 = 0 := by omega
    have e2 : n % 18446744073709551616 * 2 % 18446744073709551616 = (((2 * n).toNat : Nat) : Int) := by omega
    rw [e1, e2]
    refine (u64_xor_nat (2 * n).toNat 0 (by omega) (by omega)).trans ?_
    rw [Nat.xor_zero, Pk.zig, if_pos h0]
  · have e1 : n / 9223372036854775808 = -1 := by omega
    have e2 : n % 18446744073709551616 * 2 % 18446744073709551616 = (((18446744073709551616 + 2 * n).toNat : Nat) : Int) := by omega
    rw [e1, e2]
    refine (u64_xor_nat (18446744073709551616 + 2 * n).toNat 18446744073709551615 (by omega) (by omega)).trans ?_
    rw [xor_ones _ (by omega), Pk.zig, if_neg h0]
    omega

set_option maxHeartbeats 400000 in
set_option maxRecDepth 100000 in
theorem new_calls (w : World) :
    Calls Tryd.prog 40 #[] w fun e w' => e = .returned (.pointer (some ⟨w.heap.size, 0, none⟩)) ∧ IsW w' w.heap.size (.slice none 0 0) [] ∧ Below w.heap.size w w' ∧ w'.heap.size = w.heap.size + 1 := by
  go_enter Tryd.func40, Tryd.ntmps40
  go_wp2_with fail
  go_ret
  exact ⟨rfl, ⟨Blk.new _ _ _, (World.ownsRow_nil _ _ _ _)⟩, (Below.refl _ _).alloc (Nat.le_refl _) _, by simp⟩

set_option maxHeartbeats 400000 in
set_option maxRecDepth 100000 in
theorem string_calls (g : Nat) (v : Value) (xs : List UInt8) (w : World) (h : IsW w g v xs) :
    Calls Tryd.prog 48 #[.pointer (some ⟨g, 0, none⟩)] w fun e w' => e = .returned (S xs) ∧ w = w' := by
  have c1 : w.cell? ⟨g, 1, none⟩ = some v := by rw [h.blk.cell]; rfl
  have hcv := run_convert_own (P := Tryd.prog) w 54 9 5 Tryd.underlying54 Tryd.underlying5 Tryd.underlying9 h.own
  go_enter Tryd.func48, Tryd.ntmps48
  go_wp2_with fail
  go_ret
  exact ⟨rfl, rfl⟩
end Go.Proofs.YtlhdbkbgedlmnaaDoor
