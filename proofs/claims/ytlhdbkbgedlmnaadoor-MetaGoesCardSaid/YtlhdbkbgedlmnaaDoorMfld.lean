/-
  Layer 6: the document's whole: some bytes as a number.
-/
import Derived.Test.YtlhdbkbgedlmnaaDoorMdec
import Derived.Test.YtlhdbkbgedlmnaaDoorCrc
import Derived.Test.YtlhdbkbgedlmnaaDoorMtrim
namespace Go.Proofs.YtlhdbkbgedlmnaaDoor
open Go.RowKit
set_option linter.unusedVariables false

theorem num_snoc (l : List UInt8) (b : UInt8) : Pk.num (l ++ [b]) = Pk.num l * 256 + b.toNat := by simp [Pk.num]
set_option maxHeartbeats 1000000 in
set_option maxRecDepth 100000 in
theorem whole_calls (s : List UInt8) (w : World) (hs : s.length ≤ 8) :
    Calls Tryd.prog 67 #[S s] w fun e w' => e = .returned (.int .u64 (Pk.num s)) ∧ w = w' := by
  go_enter Tryd.func67, Tryd.ntmps67
  go_wp2_with fail
  go_loop [3, 4] (fun nv iv => ∃ k : Nat, k ≤ s.length ∧ iv = .int .i64 k ∧ nv = .int .u64 (Pk.num (s.take k))) (fun _ iv => s.length - (intOf iv).toNat)
  case atStart => exact ⟨0, by omega, rfl, rfl⟩
  case round =>
    obtain ⟨k, hk, rfl, rfl⟩ := hrel
    rcases Nat.lt_or_ge k s.length with hlt | hge
    · obtain ⟨b, hb, hbi, htk⟩ := byte_at s hlt
      have hn := Mt.num_lt' (s.take k) 7 (by rw [List.length_take]; omega)
      rw [show (256 : Nat) ^ 7 = 72057594037927936 from by decide] at hn
      have hsn := num_snoc (s.take k) b
      rw [← htk] at hsn
      have hbl := b.toNat_lt
      generalize Pk.num (s.take k) = x at *
      have hw1 : IntKind.u64.wrap (256 * (x : Int)) = 256 * (x : Int) := by rw [IntKind.wrap_u64]; omega
      have hw2 : IntKind.u64.wrap (256 * (x : Int) + b.toNat) = 256 * (x : Int) + b.toNat := by rw [IntKind.wrap_u64]; omega
      have hw3 : IntKind.u64.wrap (b.toNat : Int) = (b.toNat : Int) := by rw [IntKind.wrap_u64]; omega
      have Hsn := Lib.hid hsn
      clear hsn htk hn hb
      go_wp2_with fail
      go_round
      case rel => exact ⟨k + 1, by omega, by go_num, by rw [Hsn.out]; go_num⟩
      case measure => simp [intOf]; omega
    · obtain rfl : k = s.length := by omega
      go_wp2_with fail
      go_ret
      exact ⟨ret_int (by simp), rfl⟩
end Go.Proofs.YtlhdbkbgedlmnaaDoor
