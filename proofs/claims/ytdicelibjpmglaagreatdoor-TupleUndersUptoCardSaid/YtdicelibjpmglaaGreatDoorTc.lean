/-
  Layer 3: the program's length; the document's May.
-/
import Derived.Test.YtdicelibjpmglaaGreatDoorTb
namespace Go.Proofs.YtdicelibjpmglaaGreatDoor
open Go.RowKit
set_option linter.unusedVariables false
set_option linter.unusedSimpArgs false
attribute [local go_sem] run_store_float
open Tp (It)

set_option maxHeartbeats 2000000 in
set_option maxRecDepth 100000 in
theorem length_calls (k : Nat) (b : Bool) (n : Int) (f : Nat) (t : List UInt8) (v : Value) (hv : v.oneCell' = true) (hi : InIt k n f t) (w : World) :
    Calls Tryz.prog 91 #[IV k b n f t v] w fun e w' => e = .returned (.int .i64 (Tp.len1 k n t)) ∧ Chg (fun _ => False) w w' := by
  obtain ⟨hk, hn0, hn1, hf, ht⟩ := hi
  rcases kindCases k with rfl | rfl | rfl | rfl | rfl | ⟨q2, q3, q4, q5, q6, e2, e3, e4, e5, e6⟩
  · go_enter Tryz.func91, Tryz.ntmps91
    go_wp2_with fail
    go_ret
    exact ⟨rfl, (Chg.refl _ w).alloc _⟩
  · have hnb := Tp.nb_le n.natAbs
    have HW := Lib.hid (fun w => width_calls n w hn0 hn1)
    clear hn0 hn1
    obtain ⟨q, hq⟩ : ∃ q : Nat, Tp.nb n.natAbs = q := ⟨_, rfl⟩
    rw [hq] at HW hnb
    have Hq := Lib.hid hq
    clear hq
    go_enter Tryz.func91, Tryz.ntmps91
    go_wp2_with fail
    refine (HW.out _).mono ?_
    rintro e w' ⟨rfl, rfl⟩
    go_wp2_with fail
    go_ret
    refine ⟨ret_int ?_, (Chg.refl _ w).alloc _⟩
    have := Hq.out
    unfold Tp.len1; simp; omega
  · go_enter Tryz.func91, Tryz.ntmps91
    go_wp2_with fail
    go_ret
    exact ⟨rfl, (Chg.refl _ w).alloc _⟩
  · have hc : t.count 0 ≤ t.length := List.count_le_length
    have HC := Lib.hid (fun w => Tryz.strings_Count_one ⟨t.toArray⟩ 0 w)
    have hcc : Lib.countByte (⟨t.toArray⟩ : ByteArray).data.toList 0 = t.count 0 := rfl
    rw [hcc] at HC
    obtain ⟨q, hq⟩ : ∃ q : Nat, t.count 0 = q := ⟨_, rfl⟩
    rw [hq] at HC hc
    have hw1 : IntKind.i64.wrap (3 + (t.length : Int)) = 3 + (t.length : Int) := IntWalk.i64_in _ (by omega)
    have hw2 : IntKind.i64.wrap (3 + (t.length : Int) + (q : Int)) = 3 + (t.length : Int) + (q : Int) := IntWalk.i64_in _ (by omega)
    have Hq := Lib.hid hq
    clear hcc hq
    go_enter Tryz.func91, Tryz.ntmps91
    go_wp2_with fail
    go_quiet ((go_at_call 116; exact Calls.quiet_of_same (HC.out _)))
    all_goals
      go_wp2_with fail
      go_ret
      refine ⟨ret_int ?_, ?_⟩
      · have := Hq.out
        unfold Tp.len1; simp; omega
      · exact (((Chg.refl _ w).alloc _).drewN _)
  · go_enter Tryz.func91, Tryz.ntmps91
    go_wp2_with fail
    go_ret
    exact ⟨rfl, (Chg.refl _ w).alloc _⟩
  · have Q := Lib.hid (show k ≠ 2 ∧ k ≠ 3 ∧ k ≠ 4 ∧ k ≠ 5 ∧ k ≠ 6 from ⟨q2, q3, q4, q5, q6⟩)
    clear q2 q3 q4 q5 q6
    go_enter Tryz.func91, Tryz.ntmps91
    go_wp2_with fail
    go_ret
    refine ⟨ret_int ?_, (Chg.refl _ w).alloc _⟩
    obtain ⟨q2, q3, q4, q5, q6⟩ := Q.out
    unfold Tp.len1
    rw [if_neg q3, if_neg q4, if_neg q5, if_neg q6]; rfl

set_option maxHeartbeats 4000000 in
set_option maxRecDepth 100000 in
theorem rmay_calls (k : Nat) (b : Bool) (n : Int) (f : Nat) (t : List UInt8) (A : Option Addr) (m cap : Nat) (ls : List It) (hls : ls.length = m) (hk : k < 256) (w : World) :
    Calls Tryz.prog 84 #[IV k b n f t (.slice A m cap)] w fun e w' => e = .returned (.bool (Tp.mayB k b n f t ls)) ∧ Chg (fun _ => False) w w' := by
  have h50 := @run_callFunc_extern Tryz.prog 61 _ Extern.MathFloatBits.float64bits Tryz.func61 (by kernel_rfl) (by kernel_rfl) (by kernel_rfl) (by kernel_rfl)
  have hfb := fb_run
  have Hle := Lib.hid (show ls.isEmpty = ((m : Int) == 0) by rw [← hls]; cases ls <;> simp; omega)
  have hcv : IntKind.i64.wrap (k : Int) = (k : Int) := IntWalk.i64_in _ (by omega)
  clear hls
  have hk7 : k = 0 ∨ k = 1 ∨ k = 2 ∨ k = 3 ∨ k = 4 ∨ k = 5 ∨ k = 6 ∨ 7 ≤ k := by omega
  rcases hk7 with rfl | rfl | rfl | rfl | rfl | rfl | rfl | h7
  · clear hk
    go_enter Tryz.func84, Tryz.ntmps84
    go_wp2_with fail
    all_goals
      go_ret
      refine ⟨ret_b ?_, (Chg.refl _ w).alloc _⟩
      have hle := Hle.out
      simp_all [Tp.mayB, Tp.fitB, Tp.cleanB]
  · clear hk
    go_enter Tryz.func84, Tryz.ntmps84
    go_wp2_with fail
    all_goals
      go_ret
      refine ⟨ret_b ?_, (Chg.refl _ w).alloc _⟩
      have hle := Hle.out
      simp_all [Tp.mayB, Tp.fitB, Tp.cleanB]
  · clear hk
    go_enter Tryz.func84, Tryz.ntmps84
    go_wp2_with fail
    all_goals
      go_ret
      refine ⟨ret_b ?_, (Chg.refl _ w).alloc _⟩
      have hle := Hle.out
      simp_all [Tp.mayB, Tp.fitB, Tp.cleanB]
  · clear hk
    go_enter Tryz.func84, Tryz.ntmps84
    go_wp2_with fail
    all_goals
      go_ret
      refine ⟨ret_b ?_, (Chg.refl _ w).alloc _⟩
      have hle := Hle.out
      simp_all [Tp.mayB, Tp.fitB, Tp.cleanB]
  · clear hk
    go_enter Tryz.func84, Tryz.ntmps84
    go_wp2_with fail
    all_goals
      go_ret
      refine ⟨ret_b ?_, (Chg.refl _ w).alloc _⟩
      have hle := Hle.out
      simp_all [Tp.mayB, Tp.fitB, Tp.cleanB]
  · clear hk
    go_enter Tryz.func84, Tryz.ntmps84
    go_wp2_with fail
    all_goals
      go_ret
      refine ⟨ret_b ?_, (Chg.refl _ w).alloc _⟩
      have hle := Hle.out
      simp_all [Tp.mayB, Tp.fitB, Tp.cleanB]
  · clear hk
    go_enter Tryz.func84, Tryz.ntmps84
    go_wp2_with fail
    all_goals
      go_ret
      refine ⟨ret_b ?_, (Chg.refl _ w).alloc _⟩
      have hle := Hle.out
      simp_all [Tp.mayB, Tp.fitB, Tp.cleanB]
  · have H7 := Lib.hid h7
    have g1 : decide ((k : Int) < 1) = false := by rw [decide_eq_false_iff_not]; omega
    have g2 : decide (6 < (k : Int)) = true := by rw [decide_eq_true_iff]; omega
    have g3 : ¬ ((k : Int) < 1) := by omega
    clear hk h7
    go_enter Tryz.func84, Tryz.ntmps84
    go_wp2_with fail
    all_goals
      go_ret
      refine ⟨ret_b ?_, (Chg.refl _ w).alloc _⟩
      have hle := Hle.out
      have := H7.out
      unfold Tp.mayB Tp.fitB
      rw [decide_eq_false (by omega)]; rfl
end Go.Proofs.YtdicelibjpmglaaGreatDoor
