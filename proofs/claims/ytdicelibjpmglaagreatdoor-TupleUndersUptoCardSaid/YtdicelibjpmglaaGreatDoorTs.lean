/-
  Layer 3 in plain Lean: the order of rows that may be is that of their bytes.
-/
import Derived.Test.YtdicelibjpmglaaGreatDoorTp
namespace Go.Proofs.YtdicelibjpmglaaGreatDoor.Tp
set_option linter.unusedVariables false
/-- the first that is not nought -/
def lex (a b : Int) : Int := if a ≠ 0 then a else b
theorem lex_zero (b : Int) : lex 0 b = b := by simp [lex]
theorem lex_ne {a : Int} (b : Int) (h : a ≠ 0) : lex a b = a := by simp [lex, h]
theorem cmpL_cons (a b : UInt8) (l m : List UInt8) : cmpL (a :: l) (b :: m) = lex (cmpI a.toNat b.toNat) (cmpL l m) := by
  rw [show cmpL (a :: l) (b :: m) = if a.toNat < b.toNat then -1 else if b.toNat < a.toNat then 1 else cmpL l m by rw [cmpL]]
  unfold lex cmpI
  by_cases h : a.toNat < b.toNat
  · rw [if_pos h, if_pos (by omega : (a.toNat : Int) < b.toNat)]; simp
  · by_cases h2 : b.toNat < a.toNat
    · rw [if_neg h, if_pos h2, if_neg (by omega : ¬ (a.toNat : Int) < b.toNat), if_pos (by omega : (b.toNat : Int) < a.toNat)]; simp
    · rw [if_neg h, if_neg h2, if_neg (by omega : ¬ (a.toNat : Int) < b.toNat), if_neg (by omega : ¬ (b.toNat : Int) < a.toNat)]; simp
theorem cmpI_self (a : Int) : cmpI a a = 0 := by simp [cmpI]
theorem cmpL_same (a : UInt8) (l m : List UInt8) : cmpL (a :: l) (a :: m) = cmpL l m := by rw [cmpL_cons, cmpI_self, lex_zero]
theorem cmpL_lt {a b : UInt8} (h : a.toNat < b.toNat) (l m : List UInt8) : cmpL (a :: l) (b :: m) = -1 := by unfold cmpL; rw [if_pos h]
theorem cmpL_gt {a b : UInt8} (h : b.toNat < a.toNat) (l m : List UInt8) : cmpL (a :: l) (b :: m) = 1 := by unfold cmpL; rw [if_neg (by omega), if_pos h]
theorem cmpI_lt {a b : Int} (h : a < b) : cmpI a b = -1 := by simp [cmpI, h]
theorem cmpI_gt {a b : Int} (h : b < a) : cmpI a b = 1 := by unfold cmpI; rw [if_neg (by omega), if_pos h]
/-- texts of a like length, then more -/
theorem cmpL_app {a b : List UInt8} (h : a.length = b.length) (r s : List UInt8) : cmpL (a ++ r) (b ++ s) = lex (cmpL a b) (cmpL r s) := by
  induction a generalizing b with
  | nil =>
    cases b with
    | nil => simp [cmpL, lex]
    | cons y b => simp at h
  | cons x a ih =>
    cases b with
    | nil => simp at h
    | cons y b =>
      simp only [List.cons_append, cmpL_cons, ih (by simpa using h)]
      unfold lex
      split <;> simp_all
/-- the lowest m bytes as a number -/
theorem be_cmp (m : Nat) (x y : Int) : cmpL (Pk.be m x) (Pk.be m y) = cmpI (x % 256 ^ m) (y % 256 ^ m) := by
  induction m with
  | zero => simp [Pk.be, cmpL, cmpI, Int.emod_one]
  | succ m ih =>
    simp only [Pk.be, cmpL_cons, ih]
    have hp : (0 : Int) < 256 ^ m := Int.pow_pos (by decide)
    have key : ∀ z : Int, z % 256 ^ (m + 1) = 256 ^ m * (z / 256 ^ m % 256) + z % 256 ^ m := by
      intro z
      rw [Int.pow_succ]
      generalize (256 ^ m : Int) = p at *
      have h1 := Int.emod_add_mul_ediv z p
      have h2 := Int.emod_add_mul_ediv (z / p) 256
      have h3 := Int.emod_nonneg z (show p ≠ 0 by omega)
      have h4 := Int.emod_lt_of_pos z hp
      generalize z % p = r at *
      generalize z / p = q at *
      have h5 : 0 ≤ q % 256 := by omega
      have h6 : q % 256 ≤ 255 := by omega
      generalize q % 256 = b at *
      generalize q / 256 = c at *
      have e : z = p * b + r + p * 256 * c := by rw [← h1, ← h2, Int.mul_add, Int.mul_assoc]; omega
      rw [e, Int.add_mul_emod_self_left]
      have h7 : p * b ≤ p * 255 := Int.mul_le_mul_of_nonneg_left h6 (by omega)
      have h8 : 0 ≤ p * b := Int.mul_nonneg (by omega) h5
      exact Int.emod_eq_of_lt (by omega) (by omega)
    have hb : ∀ z : Int, ((UInt8.ofNat (z % 256).toNat).toNat : Int) = z % 256 := fun z => (Pk.byte_of z).symm
    rw [hb, hb, key x, key y]
    have hx := Int.emod_nonneg x (show (256 ^ m : Int) ≠ 0 by omega)
    have hx2 := Int.emod_lt_of_pos x hp
    have hy := Int.emod_nonneg y (show (256 ^ m : Int) ≠ 0 by omega)
    have hy2 := Int.emod_lt_of_pos y hp
    generalize x % 256 ^ m = xl at *
    generalize y % 256 ^ m = yl at *
    generalize x / 256 ^ m % 256 = xh at *
    generalize y / 256 ^ m % 256 = yh at *
    generalize (256 ^ m : Int) = p at *
    rcases Int.lt_trichotomy xh yh with h | h | h
    · rw [cmpI_lt h, lex_ne _ (by decide)]
      have : p * (xh + 1) ≤ p * yh := Int.mul_le_mul_of_nonneg_left (by omega) (by omega)
      rw [Int.mul_add, Int.mul_one] at this
      rw [cmpI_lt (by omega)]
    · subst h
      rw [cmpI_self, lex_zero]
      unfold cmpI
      congr 1
      · simp
      · congr 1
        simp
    · rw [cmpI_gt h, lex_ne _ (by decide)]
      have : p * (yh + 1) ≤ p * xh := Int.mul_le_mul_of_nonneg_left (by omega) (by omega)
      rw [Int.mul_add, Int.mul_one] at this
      rw [cmpI_gt (by omega)]
/-- an item's first byte -/
def tag (k : Nat) (b : Bool) (n : Int) : Nat := if k = 1 then 1 else if k = 2 then (if b then 3 else 2) else if k = 3 then (if 0 ≤ n then 20 + nb n.natAbs else 20 - nb n.natAbs) else if k = 4 then 32 else if k = 5 then 36 else 40
theorem one_cons (k : Nat) (b : Bool) (n : Int) (f : Nat) (t inner : List UInt8) : ∃ r, one k b n f t inner = UInt8.ofNat (tag k b n) :: r := by
  unfold one tag intB
  by_cases h1 : k = 1
  · rw [if_pos h1, if_pos h1]; exact ⟨_, rfl⟩
  rw [if_neg h1, if_neg h1]
  by_cases h2 : k = 2
  · rw [if_pos h2, if_pos h2]; cases b <;> exact ⟨_, rfl⟩
  rw [if_neg h2, if_neg h2]
  by_cases h3 : k = 3
  · rw [if_pos h3, if_pos h3]
    by_cases h0 : 0 ≤ n
    · rw [if_pos h0, if_pos h0]; exact ⟨_, rfl⟩
    · rw [if_neg h0, if_neg h0]; exact ⟨_, rfl⟩
  rw [if_neg h3, if_neg h3]
  by_cases h4 : k = 4
  · rw [if_pos h4, if_pos h4]; exact ⟨_, rfl⟩
  rw [if_neg h4, if_neg h4]
  by_cases h5 : k = 5
  · rw [if_pos h5, if_pos h5]; exact ⟨_, rfl⟩
  · rw [if_neg h5, if_neg h5]; exact ⟨_, rfl⟩
theorem tag_bounds (k : Nat) (b : Bool) (n : Int) (h1 : 1 ≤ k) (h6 : k ≤ 6) : 1 ≤ tag k b n ∧ tag k b n ≤ 40 ∧ (k = 1 → tag k b n = 1) ∧ (k = 2 → 2 ≤ tag k b n ∧ tag k b n ≤ 3) ∧ (k = 3 → 12 ≤ tag k b n ∧ tag k b n ≤ 28) ∧ (k = 4 → tag k b n = 32) ∧ (k = 5 → tag k b n = 36) ∧ (k = 6 → tag k b n = 40) := by
  have h8 := nb_le n.natAbs
  unfold tag
  rcases (show k = 1 ∨ k = 2 ∨ k = 3 ∨ k = 4 ∨ k = 5 ∨ k = 6 by omega) with rfl | rfl | rfl | rfl | rfl | rfl <;> simp
  · cases b <;> simp
  · split <;> omega
set_option maxHeartbeats 4000000 in
theorem nb_mono {a b : Nat} (h : a ≤ b) : nb a ≤ nb b := by
  unfold nb
  repeat' split
  all_goals omega
theorem nb_pow (a : Nat) (ha : a < 18446744073709551616) : a < 256 ^ nb a := by
  unfold nb
  repeat' split
  all_goals (simp; try omega)
theorem cmpL_tags {a b : Nat} (ha : a < 256) (hb : b < 256) (h : a ≠ b) (l m : List UInt8) : cmpL (UInt8.ofNat a :: l) (UInt8.ofNat b :: m) = cmpI a b := by
  have ea : (UInt8.ofNat a).toNat = a := by simp; omega
  have eb : (UInt8.ofNat b).toNat = b := by simp; omega
  rw [cmpL_cons, ea, eb]
  rcases Nat.lt_or_ge a b with h1 | h1
  · rw [cmpI_lt (by omega), lex_ne _ (by decide)]
  · rw [cmpI_gt (by omega), lex_ne _ (by decide)]
theorem lex_assoc (a b c : Int) : lex (lex a b) c = lex a (lex b c) := by
  unfold lex
  split <;> simp_all
theorem cmpI_eq0 {a b : Int} : cmpI a b = 0 ↔ a = b := by unfold cmpI; split <;> (try split) <;> simp <;> omega
/-- whole numbers' bytes -/
theorem intB_cmp (x y : Int) (hx0 : -9223372036854775808 ≤ x) (hx1 : x ≤ 9223372036854775807) (hy0 : -9223372036854775808 ≤ y) (hy1 : y ≤ 9223372036854775807) (r s : List UInt8) :
    cmpL (intB x ++ r) (intB y ++ s) = lex (cmpI x y) (cmpL r s) := by
  have bx := nb_le x.natAbs
  have byy := nb_le y.natAbs
  have px := nb_pow x.natAbs (by omega)
  have py := nb_pow y.natAbs (by omega)
  have hmono : x.natAbs ≤ y.natAbs → nb x.natAbs ≤ nb y.natAbs := nb_mono
  have hmono2 : y.natAbs ≤ x.natAbs → nb y.natAbs ≤ nb x.natAbs := nb_mono
  have hz : nb x.natAbs = 0 ↔ x = 0 := by
    constructor
    · intro h; rw [h] at px; simp at px; omega
    · rintro rfl; rfl
  have hz2 : nb y.natAbs = 0 ↔ y = 0 := by
    constructor
    · intro h; rw [h] at py; simp at py; omega
    · rintro rfl; rfl
  unfold intB
  by_cases cx : 0 ≤ x <;> by_cases cy : 0 ≤ y
  · rw [if_pos cx, if_pos cy]
    rw [List.cons_append, List.cons_append]
    by_cases hn : nb x.natAbs = nb y.natAbs
    · rw [← hn] at py ⊢
      rw [cmpL_same, cmpL_app (by rw [Pk.be_length, Pk.be_length]), be_cmp]
      have e1 : x % 256 ^ nb x.natAbs = x := Int.emod_eq_of_lt (by omega) (by have : (x.natAbs : Int) < ((256 ^ nb x.natAbs : Nat) : Int) := by omega
                                                                              simp at this; omega)
      have e2 : y % 256 ^ nb x.natAbs = y := Int.emod_eq_of_lt (by omega) (by have : (y.natAbs : Int) < ((256 ^ nb x.natAbs : Nat) : Int) := by omega
                                                                              simp at this; omega)
      rw [e1, e2]
    · rw [cmpL_tags (by omega) (by omega) (by omega)]
      rcases Int.lt_trichotomy x y with h | h | h
      · rw [cmpI_lt h, cmpI_lt (by omega), lex_ne _ (by decide)]
      · subst h; exact absurd rfl hn
      · rw [cmpI_gt h, cmpI_gt (by omega), lex_ne _ (by decide)]
  · rw [if_pos cx, if_neg cy]
    rw [List.cons_append, List.cons_append, cmpL_tags (by omega) (by omega) (by omega), cmpI_gt (by omega), cmpI_gt (by omega), lex_ne _ (by decide)]
  · rw [if_neg cx, if_pos cy]
    rw [List.cons_append, List.cons_append, cmpL_tags (by omega) (by omega) (by omega), cmpI_lt (by omega), cmpI_lt (by omega), lex_ne _ (by decide)]
  · rw [if_neg cx, if_neg cy]
    rw [List.cons_append, List.cons_append]
    by_cases hn : nb x.natAbs = nb y.natAbs
    · rw [← hn] at py ⊢
      rw [cmpL_same, cmpL_app (by rw [Pk.be_length, Pk.be_length]), be_cmp]
      have qx : (x.natAbs : Int) < ((256 ^ nb x.natAbs : Nat) : Int) := by omega
      have qy : (y.natAbs : Int) < ((256 ^ nb x.natAbs : Nat) : Int) := by omega
      simp at qx qy
      have e1 : (x - 1) % 256 ^ nb x.natAbs = x - 1 + 256 ^ nb x.natAbs := by
        rw [← Int.add_emod_right]
        exact Int.emod_eq_of_lt (by omega) (by omega)
      have e2 : (y - 1) % 256 ^ nb x.natAbs = y - 1 + 256 ^ nb x.natAbs := by
        rw [← Int.add_emod_right]
        exact Int.emod_eq_of_lt (by omega) (by omega)
      rw [e1, e2]
      congr 1
      generalize (256 ^ nb x.natAbs : Int) = p
      have e1 : (x - 1 + p < y - 1 + p) = (x < y) := propext (by omega)
      have e2 : (y - 1 + p < x - 1 + p) = (y < x) := propext (by omega)
      simp only [cmpI, e1, e2]
    · rw [cmpL_tags (by omega) (by omega) (by omega)]
      rcases Int.lt_trichotomy x y with h | h | h
      · rw [cmpI_lt h, cmpI_lt (by omega), lex_ne _ (by decide)]
      · subst h; exact absurd rfl hn
      · rw [cmpI_gt h, cmpI_gt (by omega), lex_ne _ (by decide)]
/-- texts' bytes, with their end -/
theorem esc_cmp (a b : List UInt8) (r s : List UInt8) : cmpL (esc a ++ 0 :: 1 :: r) (esc b ++ 0 :: 1 :: s) = lex (cmpL a b) (cmpL r s) := by
  induction a generalizing b with
  | nil =>
    cases b with
    | nil => simp only [esc, List.nil_append, cmpL_same]; rw [show cmpL [] [] = 0 from rfl, lex_zero]
    | cons y b =>
      rw [show cmpL ([] : List UInt8) (y :: b) = -1 by simp [cmpL], lex_ne _ (by decide)]
      by_cases hy : y = 0
      · subst hy
        simp only [esc, if_pos, List.nil_append, List.cons_append, cmpL_same]
        exact cmpL_lt (by decide) _ _
      · simp only [esc, if_neg hy, List.nil_append, List.cons_append]
        have : 0 < y.toNat := by rcases Nat.eq_zero_or_pos y.toNat with h | h; exact absurd (UInt8.toNat_inj.1 (by simpa using h)) hy; exact h
        exact cmpL_lt (by simpa using this) _ _
  | cons x a ih =>
    cases b with
    | nil =>
      rw [show cmpL (x :: a) ([] : List UInt8) = 1 by simp [cmpL], lex_ne _ (by decide)]
      by_cases hx : x = 0
      · subst hx
        simp only [esc, if_pos, List.nil_append, List.cons_append, cmpL_same]
        exact cmpL_gt (by decide) _ _
      · simp only [esc, if_neg hx, List.nil_append, List.cons_append]
        have : 0 < x.toNat := by rcases Nat.eq_zero_or_pos x.toNat with h | h; exact absurd (UInt8.toNat_inj.1 (by simpa using h)) hx; exact h
        exact cmpL_gt (by simpa using this) _ _
    | cons y b =>
      rw [cmpL_cons x y a b, lex_assoc, ← ih b]
      by_cases hx : x = 0 <;> by_cases hy : y = 0
      · subst hx hy
        simp only [esc, if_pos, List.cons_append, cmpL_same]
        rw [cmpI_self, lex_zero]
      · subst hx
        simp only [esc, if_pos, if_neg hy, List.cons_append]
        have : 0 < y.toNat := by rcases Nat.eq_zero_or_pos y.toNat with h | h; exact absurd (UInt8.toNat_inj.1 (by simpa using h)) hy; exact h
        rw [cmpL_lt (by simpa using this), cmpI_lt (by simpa using this), lex_ne _ (by decide)]
      · subst hy
        simp only [esc, if_pos, if_neg hx, List.cons_append]
        have : 0 < x.toNat := by rcases Nat.eq_zero_or_pos x.toNat with h | h; exact absurd (UInt8.toNat_inj.1 (by simpa using h)) hx; exact h
        rw [cmpL_gt (by simpa using this), cmpI_gt (by simpa using this), lex_ne _ (by decide)]
      · simp only [esc, if_neg hx, if_neg hy, List.cons_append, cmpL_cons]
theorem key_lt (f : Nat) (h : f < 18446744073709551616) : key f < 18446744073709551616 := by
  have : fbits f < 18446744073709551616 := by unfold fbits theNaN; split <;> omega
  unfold key; split <;> omega
/-- what an item's own fields hold -/
def In (n : Int) (f : Nat) : Prop := -9223372036854775808 ≤ n ∧ n ≤ 9223372036854775807 ∧ f < 18446744073709551616
/-- all items' own fields, those of lists too -/
def Ins : List It → Prop
  | [] => True
  | .mk k b n f t ls :: l => In n f ∧ Ins ls ∧ Ins l
theorem p8 : (256 : Int) ^ 8 = 18446744073709551616 := by decide
theorem key_cmp8 (a b : Nat) (ha : a < 18446744073709551616) (hb : b < 18446744073709551616) (r s : List UInt8) : cmpL ((32 :: Pk.be 8 a) ++ r) ((32 :: Pk.be 8 b) ++ s) = lex (cmpI a b) (cmpL r s) := by
  rw [List.cons_append, List.cons_append, cmpL_same, cmpL_app (by rw [Pk.be_length, Pk.be_length]), be_cmp, p8]
  rw [Int.emod_eq_of_lt (by omega) (by omega), Int.emod_eq_of_lt (by omega) (by omega)]
section
variable (b : Bool) (n : Int) (f : Nat) (t : List UInt8) (b' : Bool) (n' : Int) (f' : Nat) (t' : List UInt8) (o : Int) (i : List UInt8)
theorem one1 : one 1 b n f t i = [1] := by simp [one]
theorem one2 : one 2 b n f t i = [if b then 3 else 2] := by simp [one]
theorem one3 : one 3 b n f t i = intB n := by simp [one]
theorem one4 : one 4 b n f t i = 32 :: Pk.be 8 (key f) := by simp [one]
theorem one5 : one 5 b n f t i = 36 :: (esc t ++ [0, 1]) := by simp [one]
theorem one6 : one 6 b n f t i = 40 :: (i ++ [0]) := by simp [one]
theorem held1 : heldV 1 b n f t 1 b' n' f' t' o = o := by simp [heldV]
theorem held2 : heldV 2 b n f t 2 b' n' f' t' o = tru b - tru b' := by simp [heldV]
theorem held3 : heldV 3 b n f t 3 b' n' f' t' o = cmpI n n' := by simp [heldV]
theorem held4 : heldV 4 b n f t 4 b' n' f' t' o = cmpI (key f) (key f') := by simp [heldV]
theorem held5 : heldV 5 b n f t 5 b' n' f' t' o = cmpL t t' := by simp [heldV]
theorem held6 : heldV 6 b n f t 6 b' n' f' t' o = o := by simp [heldV]
end
/-- an item's bytes, its list's known to be ordered -/
theorem one_cmp (k : Nat) (b : Bool) (n : Int) (f : Nat) (t : List UInt8) (k' : Nat) (b' : Bool) (n' : Int) (f' : Nat) (t' : List UInt8) (o : Int) (i j : List UInt8)
    (h1 : 1 ≤ k ∧ k ≤ 6) (h1' : 1 ≤ k' ∧ k' ≤ 6) (hi : In n f) (hi' : In n' f') (ho : ∀ r s, cmpL (i ++ 0 :: r) (j ++ 0 :: s) = lex o (cmpL r s)) (ho1 : k = 1 → k' = 1 → o = 0) (r s : List UInt8) :
    cmpL (one k b n f t i ++ r) (one k' b' n' f' t' j ++ s) = lex (heldV k b n f t k' b' n' f' t' o) (cmpL r s) := by
  obtain ⟨n0, n1, hf⟩ := hi
  obtain ⟨n0', n1', hf'⟩ := hi'
  by_cases hk : k = k'
  · subst hk
    rcases (show k = 1 ∨ k = 2 ∨ k = 3 ∨ k = 4 ∨ k = 5 ∨ k = 6 by omega) with rfl | rfl | rfl | rfl | rfl | rfl
    · rw [held1, ho1 rfl rfl, one1, one1, lex_zero]
      exact cmpL_same _ _ _
    · rw [held2, one2, one2]
      cases b <;> cases b' <;> simp [tru, cmpL, lex]
    · rw [held3, one3, one3]
      exact intB_cmp n n' n0 n1 n0' n1' r s
    · rw [held4, one4, one4]
      exact key_cmp8 _ _ (key_lt f hf) (key_lt f' hf') r s
    · rw [held5, one5, one5, List.cons_append, List.cons_append, cmpL_same, List.append_assoc, List.append_assoc]
      exact esc_cmp t t' r s
    · rw [held6, one6, one6, List.cons_append, List.cons_append, cmpL_same, List.append_assoc, List.append_assoc]
      exact ho r s
  · unfold heldV
    rw [if_pos hk]
    obtain ⟨x, hx⟩ := one_cons k b n f t i
    obtain ⟨y, hy⟩ := one_cons k' b' n' f' t' j
    have hb := tag_bounds k b n h1.1 h1.2
    have hb' := tag_bounds k' b' n' h1'.1 h1'.2
    rw [hx, hy, List.cons_append, List.cons_append]
    generalize tag k b n = u at *
    generalize tag k' b' n' = v at *
    rw [cmpL_tags (by omega) (by omega) (by omega)]
    rcases Nat.lt_or_ge k k' with h | h
    · rw [cmpI_lt (show (k : Int) < k' by omega), cmpI_lt (by omega), lex_ne _ (by decide)]
    · rw [cmpI_gt (show (k' : Int) < k by omega), cmpI_gt (by omega), lex_ne _ (by decide)]
theorem side_cons (k : Nat) (b : Bool) (n : Int) (f : Nat) (t : List UInt8) (ls l : List It) (k' : Nat) (b' : Bool) (n' : Int) (f' : Nat) (t' : List UInt8) (ls' l' : List It) :
    side (.mk k b n f t ls :: l) (.mk k' b' n' f' t' ls' :: l') = lex (heldV k b n f t k' b' n' f' t' (side ls ls')) (side l l') := by
  rw [side]; rfl
theorem one_head (k : Nat) (b : Bool) (n : Int) (f : Nat) (t i : List UInt8) (h : 1 ≤ k ∧ k ≤ 6) : ∃ x r, one k b n f t i = x :: r ∧ 0 < x.toNat := by
  obtain ⟨r, hr⟩ := one_cons k b n f t i
  have hb := tag_bounds k b n h.1 h.2
  refine ⟨_, r, hr, ?_⟩
  simp; omega
/-- rows' bytes, ended by a nought -/
theorem side_cmp0 : ∀ (l l' : List It), okB l = true → okB l' = true → Ins l → Ins l' → ∀ r s, cmpL (byt l ++ 0 :: r) (byt l' ++ 0 :: s) = lex (side l l') (cmpL r s)
  | [], [], _, _, _, _, r, s => by simp only [byt, List.nil_append, cmpL_same, side, lex_zero]
  | [], .mk k b n f t ls :: l, _, h, _, _, r, s => by
    simp only [okB, Bool.and_eq_true] at h
    obtain ⟨x, q, e, hx⟩ := one_head k b n f t (byt ls) (mayB_kind h.1.1)
    simp only [byt, side, e, List.nil_append, List.cons_append]
    rw [cmpL_lt (by simpa using hx), lex_ne _ (by decide)]
  | .mk k b n f t ls :: l, [], h, _, _, _, r, s => by
    simp only [okB, Bool.and_eq_true] at h
    obtain ⟨x, q, e, hx⟩ := one_head k b n f t (byt ls) (mayB_kind h.1.1)
    simp only [byt, side, e, List.nil_append, List.cons_append]
    rw [cmpL_gt (by simpa using hx), lex_ne _ (by decide)]
  | .mk k b n f t ls :: l, .mk k' b' n' f' t' ls' :: l', h, h', hi, hi', r, s => by
    simp only [okB, Bool.and_eq_true] at h h'
    simp only [Ins] at hi hi'
    have i1 := side_cmp0 ls ls' h.1.2 h'.1.2 hi.2.1 hi'.2.1
    have i2 := side_cmp0 l l' h.2 h'.2 hi.2.2 hi'.2.2
    rw [side_cons, lex_assoc, ← i2]
    simp only [byt, List.append_assoc]
    exact one_cmp k b n f t k' b' n' f' t' _ _ _ (mayB_kind h.1.1) (mayB_kind h'.1.1) hi.1 hi'.1 i1 (fun e e' => by rw [mayB_list h.1.1 (by omega), mayB_list h'.1.1 (by omega)]; simp [side]) _ _
/-- rows' bytes -/
theorem side_cmp : ∀ (l l' : List It), okB l = true → okB l' = true → Ins l → Ins l' → cmpL (byt l) (byt l') = side l l'
  | [], [], _, _, _, _ => by simp [byt, side, cmpL]
  | [], .mk k b n f t ls :: l, _, h, _, _ => by
    simp only [okB, Bool.and_eq_true] at h
    obtain ⟨x, q, e, hx⟩ := one_head k b n f t (byt ls) (mayB_kind h.1.1)
    simp [byt, side, e, cmpL]
  | .mk k b n f t ls :: l, [], h, _, _, _ => by
    simp only [okB, Bool.and_eq_true] at h
    obtain ⟨x, q, e, hx⟩ := one_head k b n f t (byt ls) (mayB_kind h.1.1)
    simp [byt, side, e, cmpL]
  | .mk k b n f t ls :: l, .mk k' b' n' f' t' ls' :: l', h, h', hi, hi' => by
    simp only [okB, Bool.and_eq_true] at h h'
    simp only [Ins] at hi hi'
    have i2 := side_cmp l l' h.2 h'.2 hi.2.2 hi'.2.2
    rw [side_cons, ← i2]
    simp only [byt]
    exact one_cmp k b n f t k' b' n' f' t' _ _ _ (mayB_kind h.1.1) (mayB_kind h'.1.1) hi.1 hi'.1 (side_cmp0 ls ls' h.1.2 h'.1.2 hi.2.1 hi'.2.1) (fun e e' => by rw [mayB_list h.1.1 (by omega), mayB_list h'.1.1 (by omega)]; simp [side]) _ _
end Go.Proofs.YtdicelibjpmglaaGreatDoor.Tp
