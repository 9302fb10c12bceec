/-
  Layer 3: the walk of TupleSorts.
-/
import Derived.Test.YtdicelibjpmglaaGreatDoorTu
namespace Go.Proofs.YtdicelibjpmglaaGreatDoor
open Go.RowKit
set_option linter.unusedVariables false
set_option linter.unusedSimpArgs false
attribute [local go_sem] run_store_float
open Tp (It)

theorem less_cmp : ∀ (p q : List UInt8), Op.bytesLess p q = decide (Tp.cmpL p q = -1)
  | [], [] => by simp [Op.bytesLess, Tp.cmpL]
  | [], _ :: _ => by simp [Op.bytesLess, Tp.cmpL]
  | _ :: _, [] => by simp [Op.bytesLess, Tp.cmpL]
  | a :: l, b :: m => by
    have ih := less_cmp l m
    simp only [Op.bytesLess, Tp.cmpL]
    by_cases h1 : a.toNat < b.toNat
    · have : a < b := by rw [UInt8.lt_iff_toNat_lt]; exact h1
      simp [h1, this]
    · by_cases h2 : b.toNat < a.toNat
      · have ha : ¬ a < b := by rw [UInt8.lt_iff_toNat_lt]; exact h1
        have he : a ≠ b := by rintro rfl; omega
        simp [h1, h2, ha, he]
      · have he : a = b := UInt8.toNat_inj.1 (by omega)
        subst he
        simp [ih]
theorem cmpL_anti : ∀ (p q : List UInt8), Tp.cmpL q p = - Tp.cmpL p q
  | [], [] => by simp [Tp.cmpL]
  | [], _ :: _ => by simp [Tp.cmpL]
  | _ :: _, [] => by simp [Tp.cmpL]
  | a :: l, b :: m => by
    have ih := cmpL_anti l m
    simp only [Tp.cmpL]
    by_cases h1 : a.toNat < b.toNat
    · rw [if_neg (by omega), if_pos h1, if_pos h1]; rfl
    · by_cases h2 : b.toNat < a.toNat
      · rw [if_pos h2, if_neg h1, if_pos h2]
      · rw [if_neg h2, if_neg h1, if_neg h1, if_neg h2, ih]
theorem cmpL_le (p q : List UInt8) : Tp.cmpL p q = -1 ∨ Tp.cmpL p q = 0 ∨ Tp.cmpL p q = 1 := by
  induction p generalizing q with
  | nil => cases q <;> simp [Tp.cmpL]
  | cons a l ih =>
    cases q with
    | nil => simp [Tp.cmpL]
    | cons b m =>
      simp only [Tp.cmpL]
      split
      · exact .inl rfl
      · split
        · exact .inr (.inr rfl)
        · exact ih m
namespace Tp
theorem cmpL_zero : ∀ (p q : List UInt8), cmpL p q = 0 ↔ p = q
  | [], [] => by simp [cmpL]
  | [], _ :: _ => by simp [cmpL]
  | _ :: _, [] => by simp [cmpL]
  | a :: l, b :: m => by
    have ih := cmpL_zero l m
    simp only [cmpL]
    by_cases h1 : a.toNat < b.toNat
    · rw [if_pos h1]; simp; rintro rfl; omega
    · by_cases h2 : b.toNat < a.toNat
      · rw [if_neg h1, if_pos h2]; simp; rintro rfl; omega
      · have he : a = b := UInt8.toNat_inj.1 (by omega)
        subst he
        rw [if_neg h1, if_neg h2, ih]; simp
end Tp
theorem Row.ins {w : World} {B : Nat} {v : Value} {l : List It} (h : Row w B v l) : Tp.Ins l := by
  have key : ∀ (vs : List Value) (l : List It), vs.length = l.length → (∀ (k : Nat) (b : Bool) (n : Int) (f : Nat) (t : List UInt8) (ls : List It), It.mk k b n f t ls ∈ l → InIt k n f t) →
      (∀ (i k : Nat) (b : Bool) (n : Int) (f : Nat) (t : List UInt8) (ls : List It) (v : Value), l[i]? = some (It.mk k b n f t ls) → vs[i]? = some v → Tp.Ins ls) → Tp.Ins l := by
    intro vs l
    induction l generalizing vs with
    | nil => intros; simp [Tp.Ins]
    | cons x l ih =>
      intro hl hin hs
      obtain ⟨k, b, n, f, t, ls⟩ := x
      cases vs with
      | nil => simp at hl
      | cons v vs =>
        have h1 := hin k b n f t ls (by simp)
        simp only [Tp.Ins]
        refine ⟨⟨h1.n0, h1.n1, h1.f⟩, hs 0 k b n f t ls v rfl rfl, ih vs (by simpa using hl) (fun k b n f t ls hm => hin k b n f t ls (by simp [hm])) (fun i k b n f t ls v h1 h2 => hs (i + 1) k b n f t ls v (by simpa using h1) (by simpa using h2))⟩
  induction h with
  | nil A cap hc1 => simp [Tp.Ins]
  | mk g off cap l vs hg hl hcap hc1 hin hcs hr ih => exact key vs l hl hin ih

end Go.Proofs.YtdicelibjpmglaaGreatDoor
