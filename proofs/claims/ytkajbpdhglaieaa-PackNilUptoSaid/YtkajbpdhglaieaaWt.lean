/-
  pack.Writer: New, Text, Signed, Len, String.
-/
import Derived.Test.YtkajbpdhglaieaaWr
namespace Go.Proofs.Ytkajbpdhglaieaa
open Go.RowKit
set_option linter.unusedVariables false

set_option maxHeartbeats 400000 in
set_option maxRecDepth 100000 in
theorem text_calls (g : Nat) (l : List UInt8) (v : Value) (xs : List UInt8) (w : World) (h : IsW w g v xs) (hroom : xs.length + (Pk.free l.length).length + l.length ≤ 140737488355328) :
    Calls Try.prog 13 #[.pointer (some ⟨g, 0, none⟩), S l] w fun e w' => e = .returned (.tuple #[]) ∧ Wrote w w' g v (xs ++ (Pk.free l.length ++ l)) := by
  go_enter Try.func13, Try.ntmps13
  go_wp2_with fail
  refine (free_calls g l.length v xs w h (by unfold U64; omega) (by omega)).mono ?_
  rintro e w1 ⟨rfl, v1, h1, hc1, hv1⟩
  go_wp2_with fail
  refine (raw_calls g _ 1 1 [l] v1 _ _ ⟨h1.blk.alloc _, h1.own.alloc _⟩ (Lst.new w1 9 [S l]) ?_ (by omega) ?_).mono ?_
  · rintro - ad ⟨rfl⟩
    refine ⟨fun e => ?_, fun e => ?_⟩
    · have := h1.blk.lt; simp at e; omega
    · have := (h1.own.lt _ e).2; simp at this
  · simp; omega
  rintro e w2 ⟨rfl, v2, h2, hc2, hv2⟩
  go_wp2_with fail
  go_end0
  refine ⟨rfl, v2, by simpa using h2, (hc1.alloc _).andThen hc2 ?_, ?_⟩
  · intro k hk hs
    rcases hs with rfl | hs
    · exact .inl rfl
    · rcases hv1 k hs with h | h
      · exact .inr h
      · omega
  · intro k hk
    rcases hv2 k hk with h | h
    · exact hv1 k h
    · right; have := hc1.size; simp at h; omega

/-- a number that fits an int64 -/
def I64 (n : Int) : Prop := -9223372036854775808 ≤ n ∧ n < 9223372036854775808
theorem zig_u64 (n : Int) (h : I64 n) : U64 (Pk.zig n) := by
  unfold I64 at h; unfold U64 Pk.zig; split <;> omega
theorem xor_ones (a : Nat) (h : a < 18446744073709551616) : a ^^^ 18446744073709551615 = 18446744073709551615 - a := by
  have h1 : (BitVec.ofNat 64 a ^^^ BitVec.allOnes 64).toNat = a ^^^ 18446744073709551615 := by
    rw [BitVec.toNat_xor, BitVec.toNat_ofNat, BitVec.toNat_allOnes, Nat.mod_eq_of_lt h]
  rw [← h1, BitVec.xor_allOnes, BitVec.toNat_not, BitVec.toNat_ofNat, Nat.mod_eq_of_lt h]
theorem zig_bits (n : Int) (h : I64 n) : bits BinOp.xor IntKind.u64 (IntKind.u64.wrap (IntKind.u64.wrap n * 2)) (IntKind.u64.wrap (n / 9223372036854775808)) = ((Pk.zig n : Nat) : Int) := by
  unfold I64 at h
  rw [IntKind.wrap_u64, IntKind.wrap_u64, IntKind.wrap_u64]
  by_cases h0 : 0 ≤ n
  · have e1 : n / 9223372036854775808 = 0 := by omega
    have e2 : n % 18446744073709551616 * 2 % 18446744073709551616 = (((2 * n).toNat : Nat) : Int) := by omega
    rw [e1, e2]
    refine (u64_xor_nat (2 * n).toNat 0 (by omega) (by omega)).trans ?_
    rw [Nat.xor_zero, Pk.zig, if_pos h0]
  · have e1 : n / 9223372036854775808 = -1 := by omega
    have e2 : n % 18446744073709551616 * 2 % 18446744073709551616 = (((18446744073709551616 + 2 * n).toNat : Nat) : Int) := by omega
    rw [e1, e2]
    refine (u64_xor_nat (18446744073709551616 + 2 * n).toNat 18446744073709551615 (by omega) (by omega)).trans ?_
    rw [xor_ones _ (by omega), Pk.zig, if_neg h0]
    omega

set_option maxHeartbeats 400000 in
set_option maxRecDepth 100000 in
theorem signed_calls (g : Nat) (n : Int) (v : Value) (xs : List UInt8) (w : World) (h : IsW w g v xs) (hn : I64 n) (hroom : xs.length + (Pk.free (Pk.zig n)).length ≤ 140737488355328) :
    Calls Try.prog 43 #[.pointer (some ⟨g, 0, none⟩), .int .i64 n] w fun e w' => e = .returned (.tuple #[]) ∧ Wrote w w' g v (xs ++ Pk.free (Pk.zig n)) := by
  go_enter Try.func43, Try.ntmps43
  go_wp2_with fail
  rw [zig_bits n hn]
  refine (free_calls g (Pk.zig n) v xs w h (zig_u64 n hn) hroom).mono ?_
  rintro e w1 ⟨rfl, hw⟩
  go_wp2_with fail
  go_end0
  exact ⟨rfl, hw⟩

set_option maxHeartbeats 400000 in
set_option maxRecDepth 100000 in
theorem new_calls (w : World) :
    Calls Try.prog 10 #[] w fun e w' => e = .returned (.pointer (some ⟨w.heap.size, 0, none⟩)) ∧ IsW w' w.heap.size (.slice none 0 0) [] ∧ Below w.heap.size w w' ∧ w'.heap.size = w.heap.size + 1 := by
  go_enter Try.func10, Try.ntmps10
  go_wp2_with fail
  go_ret
  exact ⟨rfl, ⟨Blk.new _ _ _, (World.ownsRow_nil _ _ _ _)⟩, (Below.refl _ _).alloc (Nat.le_refl _) _, by simp⟩

set_option maxHeartbeats 400000 in
set_option maxRecDepth 100000 in
theorem len_calls (g : Nat) (v : Value) (xs : List UInt8) (w : World) (h : IsW w g v xs) :
    Calls Try.prog 20 #[.pointer (some ⟨g, 0, none⟩)] w fun e w' => e = .returned (.int .i64 xs.length) ∧ w = w' := by
  obtain ⟨ao, cp, rfl⟩ := own_form h.own
  have c1 : w.cell? ⟨g, 1, none⟩ = some (.slice ao xs.length cp) := by rw [h.blk.cell]; rfl
  go_enter Try.func20, Try.ntmps20
  go_wp2_with fail
  go_ret
  exact ⟨rfl, rfl⟩

set_option maxHeartbeats 400000 in
set_option maxRecDepth 100000 in
theorem string_calls (g : Nat) (v : Value) (xs : List UInt8) (w : World) (h : IsW w g v xs) :
    Calls Try.prog 16 #[.pointer (some ⟨g, 0, none⟩)] w fun e w' => e = .returned (S xs) ∧ w = w' := by
  have c1 : w.cell? ⟨g, 1, none⟩ = some v := by rw [h.blk.cell]; rfl
  have hcv := run_convert_own (P := Try.prog) w 76 9 5 Try.underlying76 Try.underlying5 Try.underlying9 h.own
  go_enter Try.func16, Try.ntmps16
  go_wp2_with fail
  go_ret
  exact ⟨rfl, rfl⟩
end Go.Proofs.Ytkajbpdhglaieaa
