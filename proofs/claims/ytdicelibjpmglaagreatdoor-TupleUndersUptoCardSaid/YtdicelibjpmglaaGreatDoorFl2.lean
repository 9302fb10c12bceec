/-
  Layer 3 in plain Lean: the document's order of floats is that of their keys.
-/
import Derived.Test.YtdicelibjpmglaaGreatDoorFl
namespace Go.Proofs.YtdicelibjpmglaaGreatDoor.Fl
set_option linter.unusedVariables false
/-- the document's floats -/
def floats (a b : Nat) : Int :=
  if Tp.nan a || Tp.nan b then (if Tp.nan a = false then -1 else if Tp.nan b = false then 1 else 0)
  else if sr a = sr b then (if (neg a && !neg b) = true then -1 else if (!neg a && neg b) = true then 1 else 0)
  else if sr a < sr b then -1 else 1
theorem key_num {a : Nat} (h : Tp.nan a = false) : Tp.key a = if neg a then 18446744073709551615 - a else a + 9223372036854775808 := by
  unfold Tp.key Tp.fbits neg
  rw [h]
  by_cases c : 9223372036854775808 ≤ a <;> simp [c]
theorem key_nan {a : Nat} (h : Tp.nan a = true) : Tp.key a = 18444492273895866368 := by
  unfold Tp.key Tp.fbits
  rw [h]
  simp [Tp.theNaN]
theorem num_bound {a : Nat} (h : Tp.nan a = false) : rung a ≤ 9218868437227405312 := by
  unfold Tp.nan at h
  simp only [decide_eq_false_iff_not] at h
  unfold rung
  omega
theorem floats_key (a b : Nat) (ha : a < 18446744073709551616) (hb : b < 18446744073709551616) : floats a b = Tp.cmpI (Tp.key a) (Tp.key b) := by
  unfold floats Tp.cmpI
  cases na : Tp.nan a
  · have ba := num_bound na
    rw [key_num na]
    cases nb : Tp.nan b
    · have bb := num_bound nb
      rw [key_num nb]
      unfold sr neg rung at *
      by_cases ca : 9223372036854775808 ≤ a <;> by_cases cb : 9223372036854775808 ≤ b <;> simp [ca, cb] <;> split <;> (try split) <;> (try split) <;> omega
    · rw [key_nan nb]
      unfold neg rung at *
      by_cases ca : 9223372036854775808 ≤ a <;> simp [ca] <;> omega
  · rw [key_nan na]
    cases nb : Tp.nan b
    · have bb := num_bound nb
      rw [key_num nb]
      unfold neg rung at *
      by_cases cb : 9223372036854775808 ≤ b <;> simp [cb] <;> split <;> omega
    · rw [key_nan nb]
      simp
end Go.Proofs.YtdicelibjpmglaaGreatDoor.Fl
