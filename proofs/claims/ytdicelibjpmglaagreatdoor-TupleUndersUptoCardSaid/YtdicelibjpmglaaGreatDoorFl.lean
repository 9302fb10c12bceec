/-
  Layer 3 in plain Lean: floats' order by their bits.
-/
import Derived.Test.YtdicelibjpmglaaGreatDoorTp
import GoSem.Core.Float
namespace Go.Proofs.YtdicelibjpmglaaGreatDoor.Fl
open Ieee
set_option linter.unusedVariables false
/-- a magnitude in units of the least place -/
def G (r : Nat) : Nat := if r < 4503599627370496 then r else (4503599627370496 + r % 4503599627370496) * 2 ^ (r / 4503599627370496 - 1)
theorem G_succ (r : Nat) : G (r + 1) = G r + 2 ^ (r / 4503599627370496 - 1) := by
  unfold G
  by_cases h1 : r + 1 < 4503599627370496
  · rw [if_pos h1, if_pos (by omega), show r / 4503599627370496 = 0 by omega]
  rw [if_neg h1]
  by_cases h2 : r < 4503599627370496
  · obtain rfl : r = 4503599627370495 := by omega
    decide
  rw [if_neg h2]
  by_cases h3 : r % 4503599627370496 = 4503599627370495
  · obtain ⟨e, he⟩ : ∃ e, r / 4503599627370496 = e + 1 := ⟨r / 4503599627370496 - 1, by omega⟩
    rw [show (r + 1) % 4503599627370496 = 0 by omega, show (r + 1) / 4503599627370496 = e + 2 by omega, h3, he]
    rw [show e + 2 - 1 = e + 1 by omega, show e + 1 - 1 = e by omega, Nat.pow_succ]
    omega
  · rw [show (r + 1) % 4503599627370496 = r % 4503599627370496 + 1 by omega, show (r + 1) / 4503599627370496 = r / 4503599627370496 by omega, ← Nat.add_assoc, Nat.add_mul _ 1]
    omega
theorem G_lt {r s : Nat} (h : r < s) : G r < G s := by
  induction s with
  | zero => omega
  | succ s ih =>
    have := G_succ s
    have hp : 0 < 2 ^ (s / 4503599627370496 - 1) := Nat.pow_pos (by decide)
    rcases Nat.lt_or_ge r s with h1 | h1
    · have := ih h1; omega
    · obtain rfl : r = s := by omega
      omega
theorem G_lt_iff {r s : Nat} : G r < G s ↔ r < s := by
  constructor
  · intro h
    rcases Nat.lt_or_ge r s with h1 | h1
    · exact h1
    · rcases Nat.lt_or_eq_of_le h1 with h2 | h2
      · have := G_lt h2; omega
      · subst h2; omega
  · exact G_lt
/-- a float's rung below its sign -/
def rung (f : Nat) : Nat := f % 9223372036854775808
def neg (f : Nat) : Bool := decide (9223372036854775808 ≤ f)
/-- its place among the numbers, the two noughts one -/
def sr (f : Nat) : Int := if neg f then -(rung f : Int) else rung f
def mag (r : Nat) : Nat := if r < 4503599627370496 then r else 4503599627370496 + r % 4503599627370496
def place (r : Nat) : Int := if r < 4503599627370496 then -1074 else -1074 + (r / 4503599627370496 - 1 : Nat)
theorem read_num (f : Nat) (hf : f < 18446744073709551616) (h : rung f < 9218868437227405312) : double.read f = .number (neg f) (mag (rung f)) (place (rung f)) := by
  have e1 : double.signWeight = 9223372036854775808 := by decide
  have e2 : double.binade = 4503599627370496 := by decide
  have e3 : double.infRung = 9218868437227405312 := by decide
  have e4 : double.leastPlace = -1074 := by decide
  have e5 : (f / 9223372036854775808 % 2 == 1) = neg f := by
    unfold neg
    by_cases h : 9223372036854775808 ≤ f
    · rw [decide_eq_true h, show f / 9223372036854775808 = 1 by omega]; rfl
    · rw [decide_eq_false h, show f / 9223372036854775808 = 0 by omega]; rfl
  unfold Format.read
  rw [e1, e2, e3, e4]
  dsimp only
  rw [e5]
  unfold rung at h ⊢
  unfold mag place
  by_cases h1 : f % 9223372036854775808 < 4503599627370496
  · rw [if_pos h1, if_pos h1, if_pos h1]
  · rw [if_neg h1, if_neg h1, if_neg h1, if_pos h]
theorem read_inf (f : Nat) (hf : f < 18446744073709551616) (h : rung f = 9218868437227405312) : double.read f = .infinity (neg f) := by
  have e1 : double.signWeight = 9223372036854775808 := by decide
  have e2 : double.binade = 4503599627370496 := by decide
  have e3 : double.infRung = 9218868437227405312 := by decide
  have e5 : (f / 9223372036854775808 % 2 == 1) = neg f := by
    unfold neg
    by_cases h : 9223372036854775808 ≤ f
    · rw [decide_eq_true h, show f / 9223372036854775808 = 1 by omega]; rfl
    · rw [decide_eq_false h, show f / 9223372036854775808 = 0 by omega]; rfl
  unfold Format.read
  rw [e1, e2, e3]
  dsimp only
  rw [e5]
  unfold rung at h
  rw [if_neg (by omega), if_neg (by omega), if_pos h]
theorem read_nan (f : Nat) (h : 9218868437227405312 < rung f) : ∃ s q, double.read f = .nan s q := by
  have e1 : double.signWeight = 9223372036854775808 := by decide
  have e2 : double.binade = 4503599627370496 := by decide
  have e3 : double.infRung = 9218868437227405312 := by decide
  unfold Format.read
  rw [e1, e2, e3]
  dsimp only
  unfold rung at h
  rw [if_neg (by omega), if_neg (by omega), if_neg (by omega)]
  exact ⟨_, _, rfl⟩
theorem place_ge (r : Nat) : -1074 ≤ place r := by unfold place; split <;> omega
theorem mag_G (r : Nat) : mag r * 2 ^ (place r + 1074).toNat = G r := by
  unfold mag place G
  split
  · simp
  · congr 2
    omega
theorem cmp_mul (a b : Int) (k : Nat) (hk : 0 < k) : compare (a * k) (b * k) = compare a b := by
  have hk' : (0 : Int) < k := by omega
  rcases Int.lt_trichotomy a b with h | h | h
  · rw [Int.compare_eq_lt.2 h, Int.compare_eq_lt.2 (Int.mul_lt_mul_of_pos_right h hk')]
  · subst h; rw [Int.compare_eq_eq.2 rfl, Int.compare_eq_eq.2 rfl]
  · rw [Int.compare_eq_gt.2 h, Int.compare_eq_gt.2 (Int.mul_lt_mul_of_pos_right h hk')]
def sG (f : Nat) : Int := if neg f then -(G (rung f) : Int) else G (rung f)
theorem signed_G (f : Nat) (base : Int) (h1 : base ≤ place (rung f)) (h2 : -1074 ≤ base) : signed (neg f) (mag (rung f)) (place (rung f) - base).toNat * (2 ^ (base + 1074).toNat : Nat) = sG f := by
  have key : mag (rung f) * 2 ^ (place (rung f) - base).toNat * 2 ^ (base + 1074).toNat = G (rung f) := by
    rw [Nat.mul_assoc, ← Nat.pow_add, ← mag_G]
    congr 2
    omega
  unfold signed sG
  rw [Nat.shiftLeft_eq]
  rw [← key]
  split
  · rw [Int.neg_mul]; simp
  · simp
theorem cmp_eq {a b c d : Int} (h1 : a < b ↔ c < d) (h2 : b < a ↔ d < c) : compare a b = compare c d := by
  rcases Int.lt_trichotomy a b with h | h | h
  · rw [Int.compare_eq_lt.2 h, Int.compare_eq_lt.2 (h1.1 h)]
  · have e : c = d := by omega
    rw [Int.compare_eq_eq.2 h, Int.compare_eq_eq.2 e]
  · rw [Int.compare_eq_gt.2 h, Int.compare_eq_gt.2 (h2.1 h)]
theorem G0 : G 0 = 0 := rfl
theorem sG_lt (a b : Nat) : sG a < sG b ↔ sr a < sr b := by
  have h1 := @G_lt_iff (rung a) (rung b)
  have h2 := @G_lt_iff (rung b) (rung a)
  have h3 := @G_lt_iff 0 (rung a)
  have h4 := @G_lt_iff 0 (rung b)
  rw [G0] at h3 h4
  unfold sG sr
  cases neg a <;> cases neg b <;> simp <;> omega
theorem nan_rung (f : Nat) : Tp.nan f = decide (9218868437227405312 < rung f) := rfl
/-- how two floats stand to each other -/
theorem order_eq (a b : Nat) (ha : a < 18446744073709551616) (hb : b < 18446744073709551616) :
    FloatKind.f64.format.order a b = if Tp.nan a || Tp.nan b then none else some (compare (sr a) (sr b)) := by
  show double.order a b = _
  rw [nan_rung, nan_rung]
  unfold Format.order
  rcases Nat.lt_trichotomy (rung a) 9218868437227405312 with h1 | h1 | h1
  · rw [read_num a ha h1, decide_eq_false (by omega)]
    rcases Nat.lt_trichotomy (rung b) 9218868437227405312 with h2 | h2 | h2
    · rw [read_num b hb h2, decide_eq_false (by omega)]
      show some (compare _ _) = some _
      have pa := place_ge (rung a)
      have pb := place_ge (rung b)
      congr 1
      obtain ⟨base, hbase⟩ : ∃ base, min (place (rung a)) (place (rung b)) = base := ⟨_, rfl⟩
      rw [hbase]
      have hp : 0 < 2 ^ (base + 1074).toNat := Nat.pow_pos (by decide)
      rw [← cmp_mul _ _ _ hp, signed_G a base (by omega) (by omega), signed_G b base (by omega) (by omega)]
      exact cmp_eq (sG_lt a b) (sG_lt b a)
    · rw [read_inf b hb h2, decide_eq_false (by omega)]
      show some (if neg b then Ordering.gt else Ordering.lt) = some _
      congr 1
      unfold sr
      rw [h2]
      cases neg a <;> cases neg b <;> simp <;> first | exact (Int.compare_eq_gt.2 (by omega)).symm | exact (Int.compare_eq_lt.2 (by omega)).symm
    · obtain ⟨s, q, e⟩ := read_nan b h2
      rw [e, decide_eq_true h2]; rfl
  · rw [read_inf a ha h1, decide_eq_false (by omega)]
    rcases Nat.lt_trichotomy (rung b) 9218868437227405312 with h2 | h2 | h2
    · rw [read_num b hb h2, decide_eq_false (by omega)]
      show some (if neg a then Ordering.lt else Ordering.gt) = some _
      congr 1
      unfold sr
      rw [h1]
      cases neg a <;> cases neg b <;> simp <;> first | exact (Int.compare_eq_gt.2 (by omega)).symm | exact (Int.compare_eq_lt.2 (by omega)).symm
    · rw [read_inf b hb h2, decide_eq_false (by omega)]
      show some (compare (neg b).toNat (neg a).toNat) = some _
      congr 1
      unfold sr
      rw [h1, h2]
      cases neg a <;> cases neg b <;> decide
    · obtain ⟨s, q, e⟩ := read_nan b h2
      rw [e, decide_eq_true h2]; rfl
  · obtain ⟨s, q, e⟩ := read_nan a h1
    rw [e, decide_eq_true h1]
    cases double.read b <;> rfl
theorem order_self (f : Nat) (hf : f < 18446744073709551616) : (FloatKind.f64.format.order f f != some .eq) = Tp.nan f := by
  rw [order_eq f f hf hf]
  cases Tp.nan f
  · rw [Int.compare_eq_eq.2 rfl]; rfl
  · rfl
end Go.Proofs.YtdicelibjpmglaaGreatDoor.Fl
