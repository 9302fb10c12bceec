/-
  Layer 3: the program's width, length; the document's May, need, far.
-/
import Derived.Test.YtdicelibjpmglaaGreatDoorTa
import Derived.Lib.BitFns
import Derived.BigQuiet
import Derived.Deep.QuietTactic
namespace Go.Proofs.YtdicelibjpmglaaGreatDoor
open Go.RowKit
set_option linter.unusedVariables false
set_option linter.unusedSimpArgs false
attribute [local go_sem] run_store_float
open Tp (It)

theorem nb_half (x : Nat) (h0 : x ≠ 0) (h : U64 x) : Tp.nb x = 1 + Tp.nb (x / 256) := by
  unfold U64 at h
  by_cases c1 : x < 256
  · rw [show x / 256 = 0 by omega]; unfold Tp.nb; rw [if_neg h0, if_pos c1]; rfl
  have a0 : ¬ x / 256 = 0 := by omega
  by_cases c2 : x < 65536
  · have b : x / 256 < 256 := by omega
    unfold Tp.nb; rw [if_neg h0, if_neg c1, if_pos c2, if_neg a0, if_pos b]
  have d1 : ¬ x / 256 < 256 := by omega
  by_cases c3 : x < 16777216
  · have b : x / 256 < 65536 := by omega
    unfold Tp.nb; rw [if_neg h0, if_neg c1, if_neg c2, if_pos c3, if_neg a0, if_neg d1, if_pos b]
  have d2 : ¬ x / 256 < 65536 := by omega
  by_cases c4 : x < 4294967296
  · have b : x / 256 < 16777216 := by omega
    unfold Tp.nb; rw [if_neg h0, if_neg c1, if_neg c2, if_neg c3, if_pos c4, if_neg a0, if_neg d1, if_neg d2, if_pos b]
  have d3 : ¬ x / 256 < 16777216 := by omega
  by_cases c5 : x < 1099511627776
  · have b : x / 256 < 4294967296 := by omega
    unfold Tp.nb; rw [if_neg h0, if_neg c1, if_neg c2, if_neg c3, if_neg c4, if_pos c5, if_neg a0, if_neg d1, if_neg d2, if_neg d3, if_pos b]
  have d4 : ¬ x / 256 < 4294967296 := by omega
  by_cases c6 : x < 281474976710656
  · have b : x / 256 < 1099511627776 := by omega
    unfold Tp.nb; rw [if_neg h0, if_neg c1, if_neg c2, if_neg c3, if_neg c4, if_neg c5, if_pos c6, if_neg a0, if_neg d1, if_neg d2, if_neg d3, if_neg d4, if_pos b]
  have d5 : ¬ x / 256 < 1099511627776 := by omega
  by_cases c7 : x < 72057594037927936
  · have b : x / 256 < 281474976710656 := by omega
    unfold Tp.nb; rw [if_neg h0, if_neg c1, if_neg c2, if_neg c3, if_neg c4, if_neg c5, if_neg c6, if_pos c7, if_neg a0, if_neg d1, if_neg d2, if_neg d3, if_neg d4, if_neg d5, if_pos b]
  have d6 : ¬ x / 256 < 281474976710656 := by omega
  have b : x / 256 < 72057594037927936 := by omega
  unfold Tp.nb; rw [if_neg h0, if_neg c1, if_neg c2, if_neg c3, if_neg c4, if_neg c5, if_neg c6, if_neg c7, if_neg a0, if_neg d1, if_neg d2, if_neg d3, if_neg d4, if_neg d5, if_neg d6, if_pos b]
theorem bl_nb : ∀ (n x : Nat), x < n → U64 x → (Lib.bitLen x + 7) / 8 = Tp.nb x := by
  intro n
  induction n with
  | zero => intro x h; omega
  | succ n ih =>
    intro x hx hU
    by_cases h0 : x = 0
    · subst h0; rfl
    · have hU' := hU
      unfold U64 at hU'
      rcases Nat.lt_or_ge x 256 with h | h
      · have h8 := Lib.bitLen_le8 ⟨x, h⟩
        have h1 := Lib.bitLen_half x h0 (by omega)
        rw [nb_half x h0 hU, show x / 256 = 0 by omega, show Tp.nb 0 = 0 from rfl]
        dsimp only at h8
        omega
      · have h8 := Lib.bitLen_shift8 x h hU'
        have hr := ih (x / 256) (by omega) (by unfold U64; omega)
        rw [nb_half x h0 hU, ← hr, h8]
        omega
theorem natAbs_u64 {n : Int} (h0 : -9223372036854775808 ≤ n) (h1 : n ≤ 9223372036854775807) : U64 n.natAbs := by unfold U64; omega

set_option maxHeartbeats 1000000 in
set_option maxRecDepth 100000 in
theorem width_calls (n : Int) (w : World) (h0 : -9223372036854775808 ≤ n) (h1 : n ≤ 9223372036854775807) : Calls Tryz.prog 80 #[.int .i64 n] w fun e w' => e = .returned (.int .i64 (Tp.nb n.natAbs)) ∧ w = w' := by
  obtain ⟨x, hx⟩ : ∃ x : Nat, IntKind.u64.wrap n = (x : Int) := ⟨(IntKind.u64.wrap n).toNat, by rw [IntKind.wrap_u64]; omega⟩
  obtain ⟨m, hm⟩ : ∃ m : Nat, n.natAbs = m := ⟨_, rfl⟩
  have hmU := natAbs_u64 h0 h1
  rw [hm] at hmU ⊢
  have hb := bl_nb (m + 1) m (by omega) hmU
  have hb2 := Tp.nb_le m
  have Hb := Lib.hid hb
  have hbl : Lib.bitLen m ≤ 64 := by omega
  have HL := Lib.hid (fun w => Tryz.bits_Len64 (m : Int) w (by omega) (by unfold U64 at hmU; omega))
  rw [Int.toNat_natCast] at HL
  rcases Int.lt_or_le n 0 with hn | hn
  · have hx2 : IntKind.u64.wrap (-(x : Int)) = (m : Int) := by
      rw [← hx, IntKind.wrap_u64, IntKind.wrap_u64]
      unfold U64 at hmU
      omega
    clear hm hmU hb hb2 h0 h1
    go_enter Tryz.func80, Tryz.ntmps80
    go_wp2_with fail
    refine (HL.out _).mono ?_
    rintro e w' ⟨rfl, rfl⟩
    go_wp2_with fail
    go_ret
    exact ⟨ret_int (by have := Hb.out; omega), rfl⟩
  · have hx2 : (x : Int) = (m : Int) := by
      rw [← hx, IntKind.wrap_u64]
      unfold U64 at hmU
      omega
    have hx3 : x = m := by omega
    subst hx3
    clear hm hmU hb hb2 h0 h1 hx2
    go_enter Tryz.func80, Tryz.ntmps80
    go_wp2_with fail
    refine (HL.out _).mono ?_
    rintro e w' ⟨rfl, rfl⟩
    go_wp2_with fail
    go_ret
    exact ⟨ret_int (by have := Hb.out; omega), rfl⟩

set_option maxHeartbeats 1000000 in
set_option maxRecDepth 100000 in
theorem far_calls (n : Int) (w : World) (h0 : -9223372036854775808 ≤ n) (h1 : n ≤ 9223372036854775807) : Calls Tryz.prog 86 #[.int .i64 n] w fun e w' => e = .returned (.int .u64 (n.natAbs : Nat)) ∧ w = w' := by
  obtain ⟨x, hx⟩ : ∃ x : Nat, IntKind.u64.wrap n = (x : Int) := ⟨(IntKind.u64.wrap n).toNat, by rw [IntKind.wrap_u64]; omega⟩
  obtain ⟨m, hm⟩ : ∃ m : Nat, n.natAbs = m := ⟨_, rfl⟩
  have hmU := natAbs_u64 h0 h1
  rw [hm] at hmU ⊢
  rcases Int.lt_or_le n 0 with hn | hn
  · have hx2 : IntKind.u64.wrap (-(x : Int)) = (m : Int) := by
      rw [← hx, IntKind.wrap_u64, IntKind.wrap_u64]
      unfold U64 at hmU
      omega
    clear hm hmU h0 h1
    go_enter Tryz.func86, Tryz.ntmps86
    go_wp2_with fail
    go_ret
    exact ⟨rfl, rfl⟩
  · have hx3 : x = m := by
      have : (x : Int) = (m : Int) := by
        rw [← hx, IntKind.wrap_u64]
        unfold U64 at hmU
        omega
      omega
    subst hx3
    clear hm hmU h0 h1
    go_enter Tryz.func86, Tryz.ntmps86
    go_wp2_with fail
    go_ret
    exact ⟨rfl, rfl⟩

set_option maxHeartbeats 1000000 in
set_option maxRecDepth 100000 in
theorem need_calls (n : Nat) (w : World) (hn : U64 n) : Calls Tryz.prog 85 #[.int .u64 n] w fun e w' => e = .returned (.int .i64 (Tp.nb n)) ∧ w = w' := by
  go_enter Tryz.func85, Tryz.ntmps85
  go_wp2_with fail
  go_loop [0, 3] (fun nv mv => ∃ x j : Nat, nv = .int .u64 x ∧ mv = .int .i64 j ∧ U64 x ∧ Tp.nb n = j + Tp.nb x) (fun nv _ => (intOf nv).toNat)
  case atStart => exact ⟨n, 0, rfl, rfl, hn, by omega⟩
  case round =>
    obtain ⟨x, j, rfl, rfl, hx, hj⟩ := hrel
    have hj8 := Tp.nb_le n
    by_cases h0 : x = 0
    · subst h0
      have Hj := Lib.hid hj
      have hj9 : j ≤ 8 := by omega
      clear hj hn hj8
      go_wp2_with fail
      go_ret
      exact ⟨ret_int (by have := Hj.out; rw [show Tp.nb 0 = 0 from rfl] at this; omega), rfl⟩
    · have hh := nb_half x h0 hx
      obtain ⟨y, hy⟩ : ∃ y : Nat, x / 256 = y := ⟨_, rfl⟩
      rw [hy] at hh
      have hyw : IntKind.u64.wrap ((x : Int) / 256) = (y : Int) := by rw [IntKind.wrap_u64]; unfold U64 at hx; omega
      have Hy := Lib.hid hy
      have Hh := Lib.hid (show Tp.nb n = (j + 1 : Nat) + Tp.nb y by omega)
      have hj9 : j ≤ 7 := by omega
      have hx2 := hx
      have Hx := Lib.hid hx
      have hpos : 0 < x := by omega
      clear hh hj h0 hj8 hx hn hx2 hy
      go_wp2_with fail
      go_round
      case rel => exact ⟨y, j + 1, rfl, by go_num, by have := Hx.out; have := Hy.out; unfold U64 at *; omega, Hh.out⟩
      case measure => have := Hy.out; simp [intOf]; omega
end Go.Proofs.YtdicelibjpmglaaGreatDoor
