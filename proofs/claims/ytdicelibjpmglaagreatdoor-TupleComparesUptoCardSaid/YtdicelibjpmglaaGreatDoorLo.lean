/-
  Layer 3: the document's sign, floats, order, rows.
-/
import Derived.Test.YtdicelibjpmglaaGreatDoorTx
namespace Go.Proofs.YtdicelibjpmglaaGreatDoor
open Go.RowKit
set_option linter.unusedVariables false
set_option linter.unusedSimpArgs false
attribute [local go_sem] run_store_float
open Tp (It)

namespace Tp
def sgn (p q : Bool) : Int := if p then -1 else if q then 1 else 0
theorem sgn_cmpI (a b : Int) : sgn (decide (a < b)) (decide (b < a)) = cmpI a b := by
  unfold sgn cmpI
  simp only [decide_eq_true_eq]
theorem sgn_cmpL (p q : List UInt8) : sgn (Op.bytesLess p q) (Op.bytesLess q p) = cmpL p q := by
  rw [less_cmp, less_cmp, cmpL_anti p q]
  unfold sgn
  rcases cmpL_le p q with h | h | h <;> rw [h] <;> decide
theorem sgn_text (p q : List UInt8) : sgn (Op.bytesLess p q) (!Op.bytesLess p q && !p == q) = cmpL p q := by
  rw [less_cmp]
  unfold sgn
  by_cases h0 : p = q
  · subst h0; rw [(cmpL_zero p p).2 rfl]; simp
  · have h1 : (p == q) = false := by rw [beq_eq_false_iff_ne]; exact h0
    have h2 : cmpL p q ≠ 0 := fun h => h0 ((cmpL_zero p q).1 h)
    rw [h1]
    rcases cmpL_le p q with h | h | h
    · rw [h]; decide
    · exact absurd h h2
    · rw [h]; decide
mutual
theorem side_self : ∀ (l : List It), side l l = 0
  | [] => by simp [side]
  | x :: l => by
    have h1 := held_self x
    have h2 := side_self l
    obtain ⟨k, b, n, f, t, ls⟩ := x
    rw [side_cons]
    rw [held] at h1
    rw [h1, h2]; rfl
theorem held_self : ∀ (x : It), held x x = 0
  | .mk k b n f t ls => by
    have h := side_self ls
    rw [held, h]
    unfold heldV
    rw [if_neg (by simp)]
    rw [(cmpL_zero t t).2 rfl, cmpI_self, cmpI_self, Int.sub_self]
    simp
end
theorem comp_self (x : It) : comp x x = 0 := by
  unfold comp
  split
  · exact cmpI_self _
  · exact held_self x
end Tp

theorem sign_calls (p q : Bool) (w : World) : Calls Tryz.prog 43 #[.bool p, .bool q] w fun e w' => e = .returned (.int .i64 (Tp.sgn p q)) ∧ w' = w := by
  cases p <;> cases q
  all_goals
    go_enter Tryz.func43, Tryz.ntmps43
    go_wp2_with fail
    go_ret
    exact ⟨rfl, rfl⟩

set_option maxHeartbeats 1000000 in
set_option maxRecDepth 100000 in
theorem signbit_calls (f : Nat) (hf : U64 f) (w : World) : Calls Tryz.prog 99 #[.float .f64 f] w fun e w' => e = .returned (.bool (Fl.neg f)) ∧ w' = w := by
  have h50 := @run_callFunc_extern Tryz.prog 61 _ Extern.MathFloatBits.float64bits Tryz.func61 (by kernel_rfl) (by kernel_rfl) (by kernel_rfl) (by kernel_rfl)
  have hfb := fb_run
  have Hf := Lib.hid hf
  obtain ⟨s, hs⟩ : ∃ s, Fl.neg f = s := ⟨_, rfl⟩
  have e1 : decide (wrap64 (f : Int) < 0) = s := by
    rw [← hs]; unfold Fl.neg U64 at *
    unfold wrap64
    by_cases h : 9223372036854775808 ≤ f
    · rw [decide_eq_true h, decide_eq_true_iff]; omega
    · rw [decide_eq_false h, decide_eq_false_iff_not]; omega
  have Hs := Lib.hid hs
  clear hf hs
  go_enter Tryz.func99, Tryz.ntmps99
  go_wp2_with fail
  go_ret
  exact ⟨congrArg (fun b => Ending.returned (.bool b)) (Hs.out.symm), rfl⟩

theorem order_self_e (f : Nat) (hf : U64 f) : (FloatKind.f64.format.order f f == some .eq) = !Tp.nan f := by
  have := Fl.order_self f hf
  rw [← this]; simp [bne]
theorem order_eq_e (a b : Nat) (ha : U64 a) (hb : U64 b) (na : Tp.nan a = false) (nb : Tp.nan b = false) : (FloatKind.f64.format.order a b == some .eq) = decide (Fl.sr a = Fl.sr b) := by
  rw [Fl.order_eq a b ha hb, na, nb]
  simp only [Bool.or_false, Bool.false_eq_true, if_false]
  by_cases h : Fl.sr a = Fl.sr b
  · rw [h, Int.compare_eq_eq.2 rfl]; simp
  · rw [decide_eq_false h, beq_eq_false_iff_ne]
    intro hh; injection hh with hh; exact h (Int.compare_eq_eq.1 hh)
theorem order_lt_e (a b : Nat) (ha : U64 a) (hb : U64 b) (na : Tp.nan a = false) (nb : Tp.nan b = false) : (FloatKind.f64.format.order a b == some .lt) = decide (Fl.sr a < Fl.sr b) := by
  rw [Fl.order_eq a b ha hb, na, nb]
  simp only [Bool.or_false, Bool.false_eq_true, if_false]
  by_cases h : Fl.sr a < Fl.sr b
  · rw [Int.compare_eq_lt.2 h, decide_eq_true h]; rfl
  · rw [decide_eq_false h, beq_eq_false_iff_ne]
    intro hh; injection hh with hh; exact h (Int.compare_eq_lt.1 hh)

set_option maxHeartbeats 1000000 in
set_option maxRecDepth 100000 in
theorem rfloats_calls (a b : Nat) (ha : U64 a) (hb : U64 b) (w : World) : Calls Tryz.prog 73 #[.float .f64 a, .float .f64 b] w fun e w' => e = .returned (.int .i64 (Tp.cmpI (Tp.key a) (Tp.key b))) ∧ w' = w := by
  rw [← Fl.floats_key a b ha hb]
  have a1 := Fl.order_self a ha
  have a2 := Fl.order_self b hb
  have a3 := order_self_e a ha
  have a4 := order_self_e b hb
  have S1 := Lib.hid (fun w => signbit_calls a ha w)
  have S2 := Lib.hid (fun w => signbit_calls b hb w)
  cases na : Tp.nan a
  · cases nb : Tp.nan b
    · have a5 := order_eq_e a b ha hb na nb
      have a6 := order_lt_e a b ha hb na nb
      obtain ⟨s, hs⟩ : ∃ s, Fl.neg a = s := ⟨_, rfl⟩
      obtain ⟨t, ht⟩ : ∃ t, Fl.neg b = t := ⟨_, rfl⟩
      rw [hs] at S1
      rw [ht] at S2
      rw [na] at a1 a3
      rw [nb] at a2 a4
      have Ho := Lib.hid (show Fl.floats a b = if Fl.sr a = Fl.sr b then Tp.sgn (s && !t) (!s && t) else Tp.sgn (decide (Fl.sr a < Fl.sr b)) true by
        unfold Fl.floats Tp.sgn; rw [na, nb, hs, ht]; simp)
      clear ha hb na nb hs ht
      by_cases he : Fl.sr a = Fl.sr b
      · rw [decide_eq_true he] at a5
        rw [if_pos he] at Ho
        clear he a6
        go_enter Tryz.func73, Tryz.ntmps73
        go_wp2_with fail
        cases s <;> cases t
        all_goals
          refine (S1.out _).mono ?_
          rintro e w' ⟨rfl, rfl⟩
          go_wp2_with fail
          repeat ((first | refine (S1.out _).mono ?_ | refine (S2.out _).mono ?_ | refine (sign_calls _ _ _).mono ?_); rintro e w' ⟨rfl, rfl⟩; go_wp2_with fail)
          go_ret
          exact ⟨ret_int (by rw [Ho.out]; rfl), rfl⟩
      · rw [decide_eq_false he] at a5
        rw [if_neg he] at Ho
        obtain ⟨z, hz⟩ : ∃ z, decide (Fl.sr a < Fl.sr b) = z := ⟨_, rfl⟩
        rw [hz] at a6 Ho
        clear he hz
        go_enter Tryz.func73, Tryz.ntmps73
        go_wp2_with fail
        refine (sign_calls _ _ _).mono ?_
        rintro e w' ⟨rfl, rfl⟩
        go_wp2_with fail
        go_ret
        exact ⟨ret_int (by rw [Ho.out]), rfl⟩
    · rw [na] at a1 a3
      rw [nb] at a2 a4
      have Ho := Lib.hid (show Fl.floats a b = -1 by unfold Fl.floats; rw [na, nb]; simp)
      clear ha hb na nb S1 S2
      go_enter Tryz.func73, Tryz.ntmps73
      go_wp2_with fail
      refine (sign_calls _ _ _).mono ?_
      rintro e w' ⟨rfl, rfl⟩
      go_wp2_with fail
      go_ret
      exact ⟨ret_int (by rw [Ho.out]; rfl), rfl⟩
  · obtain ⟨z, hz⟩ : ∃ z, Tp.nan b = z := ⟨_, rfl⟩
    rw [na] at a1 a3
    rw [hz] at a2 a4
    have Ho := Lib.hid (show Fl.floats a b = Tp.sgn false (!z) by unfold Fl.floats Tp.sgn; rw [na, hz]; cases z <;> simp)
    clear ha hb na hz S1 S2
    go_enter Tryz.func73, Tryz.ntmps73
    go_wp2_with fail
    refine (sign_calls _ _ _).mono ?_
    rintro e w' ⟨rfl, rfl⟩
    go_wp2_with fail
    go_ret
    exact ⟨ret_int (by rw [Ho.out]), rfl⟩

set_option maxHeartbeats 4000000 in
set_option maxRecDepth 100000 in
theorem rorder_of (k : Nat) (b : Bool) (n : Int) (f : Nat) (t : List UInt8) (A : Option Addr) (m cap : Nat) (k' : Nat) (b' : Bool) (n' : Int) (f' : Nat) (t' : List UInt8) (A' : Option Addr) (m' cap' : Nat) (o : Int)
    (hk8 : k < 256) (hf : U64 f) (hf' : U64 f') (w : World) (hz : k ≠ 2 → k ≠ 3 → k ≠ 4 → k ≠ 5 → k ≠ 6 → k = k' → o = 0)
    (HS : ∀ w', Chg (fun _ => False) w w' → Calls Tryz.prog 46 #[.slice A m cap, .slice A' m' cap'] w' fun e w2 => e = .returned (.int .i64 o) ∧ Chg (fun _ => False) w' w2) :
    Calls Tryz.prog 44 #[IV k b n f t (.slice A m cap), IV k' b' n' f' t' (.slice A' m' cap')] w fun e w' => e = .returned (.int .i64 (Tp.heldV k b n f t k' b' n' f' t' o)) ∧ Chg (fun _ => False) w w' := by
  have HS := Lib.hid HS
  have Hz := Lib.hid hz
  clear hz
  by_cases hk : k = k'
  · subst hk
    rcases kindCases k with rfl | rfl | rfl | rfl | rfl | ⟨q2, q3, q4, q5, q6, e2, e3, e4, e5, e6⟩
    · cases b <;> cases b'
      all_goals
        go_enter Tryz.func44, Tryz.ntmps44
        go_wp2_with fail
        refine (sign_calls _ _ _).mono ?_
        rintro e w' ⟨rfl, rfl⟩
        go_wp2_with fail
        go_ret
        exact ⟨rfl, ((Chg.refl _ w).alloc _).alloc _⟩
    · go_enter Tryz.func44, Tryz.ntmps44
      go_wp2_with fail
      refine (sign_calls _ _ _).mono ?_
      rintro e w' ⟨rfl, rfl⟩
      go_wp2_with fail
      go_ret
      refine ⟨ret_int ?_, ((Chg.refl _ w).alloc _).alloc _⟩
      rw [show Tp.heldV 3 b n f t 3 b' n' f' t' o = Tp.cmpI n n' by simp [Tp.heldV], ← Tp.sgn_cmpI]
    · go_enter Tryz.func44, Tryz.ntmps44
      go_wp2_with fail
      refine (rfloats_calls _ _ hf hf' _).mono ?_
      rintro e w' ⟨rfl, rfl⟩
      go_wp2_with fail
      go_ret
      refine ⟨ret_int ?_, ((Chg.refl _ w).alloc _).alloc _⟩
      simp [Tp.heldV]
    · go_enter Tryz.func44, Tryz.ntmps44
      go_wp2_with fail
      refine (sign_calls _ _ _).mono ?_
      rintro e w' ⟨rfl, rfl⟩
      go_wp2_with fail
      go_ret
      refine ⟨ret_int ?_, ((Chg.refl _ w).alloc _).alloc _⟩
      rw [show Tp.heldV 5 b n f t 5 b' n' f' t' o = Tp.cmpL t t' by simp [Tp.heldV]]; exact Tp.sgn_text t t'
    · go_enter Tryz.func44, Tryz.ntmps44
      go_wp2_with fail
      refine (HS.out _ (((Chg.refl _ w).alloc _).alloc _)).mono ?_
      rintro e w' ⟨rfl, hc⟩
      have Hc := Lib.hid hc
      clear hc
      go_wp2_with fail
      go_ret
      exact ⟨ret_int (by simp [Tp.heldV]), (((Chg.refl _ w).alloc _).alloc _).trans Hc.out⟩
    · have Q := Lib.hid (show k ≠ 2 ∧ k ≠ 3 ∧ k ≠ 4 ∧ k ≠ 5 ∧ k ≠ 6 from ⟨q2, q3, q4, q5, q6⟩)
      have hcv : IntKind.i64.wrap (k : Int) = (k : Int) := IntWalk.i64_in _ (by omega)
      clear q2 q3 q4 q5 q6 hk8
      go_enter Tryz.func44, Tryz.ntmps44
      go_wp2_with fail
      go_ret
      obtain ⟨q2, q3, q4, q5, q6⟩ := Q.out
      exact ⟨ret_int (by have ho : o = 0 := Hz.out q2 q3 q4 q5 q6 (by first | rfl | trivial)
                         simp [Tp.heldV, q2, q3, q4, q5, ho]), ((Chg.refl _ w).alloc _).alloc _⟩
  · have e1 : ((k : Int) == (k' : Int)) = false := by rw [beq_eq_false_iff_ne]; omega
    have e2 : ((k : Int) != (k' : Int)) = true := by rw [bne_iff_ne]; omega
    have Hk := Lib.hid hk
    clear hk
    go_enter Tryz.func44, Tryz.ntmps44
    go_wp2_with fail
    refine (sign_calls _ _ _).mono ?_
    rintro e w' ⟨rfl, rfl⟩
    go_wp2_with fail
    go_ret
    refine ⟨ret_int ?_, ((Chg.refl _ w).alloc _).alloc _⟩
    have hh := Hk.out
    rw [show Tp.heldV k b n f t k' b' n' f' t' o = Tp.cmpI k k' by unfold Tp.heldV; rw [if_pos hh]]
    unfold Tp.sgn Tp.cmpI
    rcases Nat.lt_or_ge k k' with h | h
    · have h2 : (k : Int) < (k' : Int) := by omega
      simp [h]
    · have h1 : k' < k := by omega
      have h3 : ¬ k < k' := by omega
      simp [h1, h3]
end Go.Proofs.YtdicelibjpmglaaGreatDoor
