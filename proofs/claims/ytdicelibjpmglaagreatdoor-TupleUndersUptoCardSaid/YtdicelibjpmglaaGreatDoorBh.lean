/-
  Layer 3 in plain Lean: what lies between a text and the next above all that begin so, begins so.
-/
import Derived.Test.YtdicelibjpmglaaGreatDoorBg
namespace Go.Proofs.YtdicelibjpmglaaGreatDoor.Tp
set_option linter.unusedVariables false
set_option linter.unusedSimpArgs false

/-- the first text above all that begin with it; of bytes that are all 255: none -/
def next : List UInt8 → List UInt8
  | [] => []
  | x :: l => if next l = [] then (if x = 255 then [] else [x + 1]) else x :: next l
theorem up_toNat {x : UInt8} (h : x ≠ 255) : (x + 1).toNat = x.toNat + 1 := by
  have h1 : x.toNat ≠ 255 := fun e => h (UInt8.toNat_inj.1 (by simpa using e))
  have h2 := x.toNat_lt
  rw [UInt8.toNat_add]
  simp
  omega
theorem cmpL_nil (m : List UInt8) : cmpL m [] ≠ -1 := by cases m <;> simp [cmpL]
theorem within_iff : ∀ (q p : List UInt8), (cmpL q p ≤ 0 ∧ (next q = [] ∨ cmpL p (next q) = -1)) ↔ ∃ r, p = q ++ r
  | [], p => by cases p <;> simp [next, cmpL]
  | x :: l, [] => by simp [cmpL]
  | x :: l, y :: m => by
    have ih := within_iff l m
    rcases Nat.lt_trichotomy x.toNat y.toNat with h | h | h
    · have hne : x ≠ y := by rintro rfl; omega
      have hx : x ≠ 255 := by
        rintro rfl
        have := y.toNat_lt
        simp at h
        omega
      have hu := up_toNat hx
      constructor
      · rintro ⟨-, h2⟩
        exfalso
        unfold next at h2
        by_cases hn : next l = []
        · rw [if_pos hn, if_neg hx] at h2
          rcases h2 with h2 | h2
          · cases h2
          · rcases Nat.lt_or_ge (x + 1).toNat y.toNat with h3 | h3
            · rw [cmpL_gt h3] at h2; exact absurd h2 (by decide)
            · have : y = x + 1 := UInt8.toNat_inj.1 (by omega)
              rw [this, cmpL_same] at h2
              exact cmpL_nil m h2
        · rw [if_neg hn] at h2
          rcases h2 with h2 | h2
          · cases h2
          · rw [cmpL_gt h] at h2; exact absurd h2 (by decide)
      · rintro ⟨r, hr⟩
        simp only [List.cons_append] at hr
        injection hr with h1 h2
        exact absurd h1.symm hne
    · obtain rfl : x = y := UInt8.toNat_inj.1 h
      rw [cmpL_same]
      have hr : (∃ r, x :: m = x :: l ++ r) ↔ ∃ r, m = l ++ r := by simp
      rw [hr, ← ih]
      constructor
      · rintro ⟨h1, h2⟩
        refine ⟨h1, ?_⟩
        by_cases hn : next l = []
        · exact .inl hn
        · unfold next at h2
          rw [if_neg hn] at h2
          rcases h2 with h2 | h2
          · cases h2
          · rw [cmpL_same] at h2; exact .inr h2
      · rintro ⟨h1, h2⟩
        refine ⟨h1, ?_⟩
        unfold next
        by_cases hn : next l = []
        · rw [if_pos hn]
          by_cases hx : x = 255
          · rw [if_pos hx]; exact .inl rfl
          · rw [if_neg hx]
            right
            exact cmpL_lt (by rw [up_toNat hx]; omega) _ _
        · rw [if_neg hn]
          right
          rw [cmpL_same]
          rcases h2 with h2 | h2
          · exact absurd h2 hn
          · exact h2
    · constructor
      · rintro ⟨h1, -⟩
        rw [cmpL_gt h] at h1; exact absurd h1 (by decide)
      · rintro ⟨r, hr⟩
        simp only [List.cons_append] at hr
        injection hr with h1 h2
        subst h1; omega
/-- bytes of 255 behind are taken off -/
theorem next_strip (l : List UInt8) : next (l ++ [255]) = next l := by
  induction l with
  | nil => simp [next]
  | cons x l ih => simp only [List.cons_append, next, ih]
theorem next_ne (l : List UInt8) (x : UInt8) (h : x ≠ 255) : next (l ++ [x]) = l ++ [x + 1] := by
  induction l with
  | nil => simp [next, h]
  | cons y l ih => simp only [List.cons_append, next, ih]; simp
end Go.Proofs.YtdicelibjpmglaaGreatDoor.Tp
