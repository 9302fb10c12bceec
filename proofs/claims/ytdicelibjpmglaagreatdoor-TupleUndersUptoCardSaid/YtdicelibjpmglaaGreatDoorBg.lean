/-
  Layer 3 in plain Lean: the bytes of the one begin with those of the other just if its first items are alike.
-/
import Derived.Test.YtdicelibjpmglaaGreatDoorLk
import Derived.Test.YtdicelibjpmglaaGreatDoorTx
namespace Go.Proofs.YtdicelibjpmglaaGreatDoor.Tp
set_option linter.unusedVariables false
set_option linter.unusedSimpArgs false

theorem lex_eq0 {a b : Int} : lex a b = 0 ↔ a = 0 ∧ b = 0 := by
  by_cases h : a = 0
  · subst h; rw [lex_zero]; simp
  · rw [lex_ne _ h]; simp [h]
theorem key_inj {a b : Nat} (ha : a < 18446744073709551616) (hb : b < 18446744073709551616) (h : key a = key b) : fbits a = fbits b := by
  have h1 : fbits a < 18446744073709551616 := by unfold fbits theNaN; split <;> omega
  have h2 : fbits b < 18446744073709551616 := by unfold fbits theNaN; split <;> omega
  unfold key at h
  split at h <;> split at h <;> omega
theorem key_of {a b : Nat} (h : fbits a = fbits b) : key a = key b := by unfold key; rw [h]
theorem held_alike {k : Nat} {b : Bool} {n : Int} {f : Nat} {t : List UInt8} {ls : List It} {k' : Nat} {b' : Bool} {n' : Int} {f' : Nat} {t' : List UInt8} {ls' : List It} {o : Int}
    (h : mayB k b n f t ls = true) (h' : mayB k' b' n' f' t' ls' = true) (hi : In n f) (hi' : In n' f') (hv : heldV k b n f t k' b' n' f' t' o = 0) :
    (k = k' ∧ b = b' ∧ n = n' ∧ fbits f = fbits f' ∧ t = t') ∧ (k = 6 → o = 0) := by
  by_cases hk : k = k'
  · subst hk
    have hk2 := mayB_kind h
    unfold mayB cleanB at h h'
    simp only [Bool.and_eq_true, Bool.or_eq_true, beq_iff_eq, Bool.not_eq_true', List.isEmpty_iff] at h h'
    obtain ⟨-, p2, p3, p4, p5, -⟩ := h
    obtain ⟨-, q2, q3, q4, q5, -⟩ := h'
    rcases (show k = 1 ∨ k = 2 ∨ k = 3 ∨ k = 4 ∨ k = 5 ∨ k = 6 by omega) with rfl | rfl | rfl | rfl | rfl | rfl
    · simp at p2 p3 p4 p5 q2 q3 q4 q5; simp_all
    · rw [held2] at hv
      simp at p3 p4 p5 q3 q4 q5
      cases b <;> cases b' <;> simp_all [tru]
    · rw [held3] at hv
      simp at p2 p4 p5 q2 q4 q5
      have := cmpI_eq0.1 hv
      simp_all
    · rw [held4] at hv
      simp at p2 p3 p5 q2 q3 q5
      have := key_inj hi.2.2 hi'.2.2 (by have := cmpI_eq0.1 hv; omega)
      simp_all
    · rw [held5] at hv
      simp at p2 p3 p4 q2 q3 q4
      have := (cmpL_zero t t').1 hv
      simp_all
    · rw [held6] at hv
      simp at p2 p3 p4 p5 q2 q3 q4 q5
      simp_all
  · unfold heldV at hv
    rw [if_pos hk] at hv
    exact absurd (cmpI_eq0.1 hv) (by omega)
theorem held_of_alike {k : Nat} {b : Bool} {n : Int} {f : Nat} {t : List UInt8} {f' : Nat} {o : Int} (hf : fbits f = fbits f') (ho : o = 0) : heldV k b n f t k b n f' t o = 0 := by
  unfold heldV
  rw [if_neg (by simp), key_of hf, cmpI_self, cmpI_self, (cmpL_zero t t).2 rfl, Int.sub_self, ho]
  simp
theorem alike_side : ∀ (l l' : List It), alike l l' → side l l' = 0
  | [], [], _ => by simp [side]
  | .mk k b n f t ls :: l, .mk k' b' n' f' t' ls' :: l', h => by
    simp only [alike] at h
    obtain ⟨⟨rfl, rfl, rfl, hf, rfl⟩, h2, h3⟩ := h
    rw [side_cons, held_of_alike hf (alike_side ls ls' h2), lex_zero]
    exact alike_side l l' h3
  | [], _ :: _, h => by simp [alike] at h
  | .mk k b n f t ls :: l, [], h => by simp [alike] at h
theorem side_alike : ∀ (l l' : List It), okB l = true → okB l' = true → Ins l → Ins l' → side l l' = 0 → alike l l'
  | [], [], _, _, _, _, _ => by simp [alike]
  | .mk k b n f t ls :: l, .mk k' b' n' f' t' ls' :: l', h, h', hi, hi', hs => by
    simp only [okB, Bool.and_eq_true] at h h'
    simp only [Ins] at hi hi'
    rw [side_cons, lex_eq0] at hs
    obtain ⟨h1, h2⟩ := held_alike h.1.1 h'.1.1 hi.1 hi'.1 hs.1
    have h3 := side_alike l l' h.2 h'.2 hi.2.2 hi'.2.2 hs.2
    simp only [alike]
    refine ⟨h1, ?_, h3⟩
    by_cases h6 : k = 6
    · exact side_alike ls ls' h.1.2 h'.1.2 hi.2.1 hi'.2.1 (h2 h6)
    · rw [mayB_list h.1.1 h6, mayB_list h'.1.1 (by omega)]; simp [alike]
  | [], .mk k b n f t ls :: l, _, _, _, _, hs => by simp [side] at hs
  | .mk k b n f t ls :: l, [], _, _, _, _, hs => by simp [side] at hs
/-- the bytes begin so just if the first items are alike -/
theorem begins_iff : ∀ (a b : List It), okB a = true → okB b = true → Ins a → Ins b → ((∃ r, byt a = byt b ++ r) ↔ (b.length ≤ a.length ∧ alike (a.take b.length) b))
  | a, [], _, _, _, _ => by simp [byt, alike]
  | [], .mk k b n f t ls :: l, _, h, _, _ => by
    simp only [okB, Bool.and_eq_true] at h
    obtain ⟨x, q, e, hx⟩ := one_head k b n f t (byt ls) (mayB_kind h.1.1)
    simp [byt, e]
  | .mk k b n f t ls :: l, .mk k' b' n' f' t' ls' :: l', h, h', hi, hi' => by
    simp only [okB, Bool.and_eq_true] at h h'
    simp only [Ins] at hi hi'
    have ih := begins_iff l l' h.2 h'.2 hi.2.2 hi'.2.2
    have i1 := side_cmp0 ls ls' h.1.2 h'.1.2 hi.2.1 hi'.2.1
    have hone := fun r s => one_cmp k b n f t k' b' n' f' t' _ _ _ (mayB_kind h.1.1) (mayB_kind h'.1.1) hi.1 hi'.1 i1 (fun e e' => by rw [mayB_list h.1.1 (by omega), mayB_list h'.1.1 (by omega)]; simp [side]) r s
    have hsplit : (∃ r, byt (.mk k b n f t ls :: l) = byt (.mk k' b' n' f' t' ls' :: l') ++ r) ↔ (heldV k b n f t k' b' n' f' t' (side ls ls') = 0 ∧ ∃ r, byt l = byt l' ++ r) := by
      simp only [byt]
      constructor
      · rintro ⟨r, hr⟩
        rw [List.append_assoc] at hr
        have h0 := (cmpL_zero _ _).2 hr
        rw [hone, lex_eq0] at h0
        exact ⟨h0.1, r, (cmpL_zero _ _).1 h0.2⟩
      · rintro ⟨h0, r, hr⟩
        refine ⟨r, ?_⟩
        rw [List.append_assoc]
        apply (cmpL_zero _ _).1
        rw [hone, lex_eq0]
        exact ⟨h0, (cmpL_zero _ _).2 hr⟩
    rw [hsplit, ih]
    simp only [List.length_cons, List.take_succ_cons, alike]
    constructor
    · rintro ⟨h0, h1, h2⟩
      obtain ⟨h3, h4⟩ := held_alike h.1.1 h'.1.1 hi.1 hi'.1 h0
      refine ⟨by omega, h3, ?_, h2⟩
      by_cases h6 : k = 6
      · exact side_alike ls ls' h.1.2 h'.1.2 hi.2.1 hi'.2.1 (h4 h6)
      · rw [mayB_list h.1.1 h6, mayB_list h'.1.1 (by omega)]; simp [alike]
    · rintro ⟨h0, ⟨rfl, rfl, rfl, hf, rfl⟩, h2, h3⟩
      exact ⟨held_of_alike hf (alike_side ls ls' h2), by omega, h3⟩
end Go.Proofs.YtdicelibjpmglaaGreatDoor.Tp
