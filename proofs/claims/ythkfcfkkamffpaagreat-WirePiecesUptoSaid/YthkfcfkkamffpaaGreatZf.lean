/-
  Layer 27, plain: a stream fed in two pieces.
-/
import Derived.Test.YthkfcfkkamffpaaGreatYq
namespace Go.Proofs.YthkfcfkkamffpaaGreat
open Go.RowKit
set_option linter.unusedVariables false
set_option linter.unusedSimpArgs false
open Wm (M)
theorem foll_more {s t : List UInt8} (h4 : ¬ s.length < 4) : foll (s ++ t) = foll s := by
  unfold foll
  rw [List.take_append_of_le_length (by omega)]
theorem feed_append (t : List UInt8) : ∀ (n : Nat) (s : List UInt8), s.length ≤ n → feedW (s ++ t) = if (feedW s).2.1 ≠ 0 then feedW s else ((feedW s).1 ++ (feedW ((feedW s).2.2 ++ t)).1, (feedW ((feedW s).2.2 ++ t)).2)
  | n, s, hn => by
    by_cases h4 : s.length < 4
    · rw [feed_short h4, if_neg (by simp)]; rfl
    by_cases hw : waits s
    · rw [feed_waits h4 hw, if_neg (by simp)]; rfl
    have h4' : ¬ (s ++ t).length < 4 := by rw [List.length_append]; omega
    by_cases hf : (foll s).2 = 0
    case neg =>
      rw [feed_foll h4 hf, feed_foll h4' (by rw [foll_more h4]; exact hf), foll_more h4, if_pos hf]
    have hl : ¬ s.length - 4 < (foll s).1 := fun h => hw ⟨hf, h⟩
    have hp := foll_pos hf
    have e1 : (s ++ t).take ((foll s).1 + 4) = s.take ((foll s).1 + 4) := List.take_append_of_le_length (by omega)
    have e2 : (s ++ t).drop ((foll s).1 + 4) = s.drop ((foll s).1 + 4) ++ t := List.drop_append_of_le_length (by omega)
    have hl' : ¬ (s ++ t).length - 4 < (foll (s ++ t)).1 := by rw [foll_more h4, List.length_append]; omega
    have hf' : (foll (s ++ t)).2 = 0 := by rw [foll_more h4]; exact hf
    by_cases hd : (decW (s.take ((foll s).1 + 4))).2 = 0
    case neg =>
      have hb := feed_bad h4' hf' hl' (by rw [foll_more h4, e1]; exact hd)
      rw [foll_more h4, e1] at hb
      rw [feed_bad h4 hf hl hd, hb, if_pos hd]
    have hg := feed_good h4' hf' hl' (by rw [foll_more h4, e1]; exact hd)
    rw [foll_more h4, e1, e2] at hg
    have hdl : (s.drop ((foll s).1 + 4)).length = s.length - ((foll s).1 + 4) := List.length_drop
    rw [hg, feed_good h4 hf hl hd, feed_append t (n - 1) (s.drop ((foll s).1 + 4)) (by omega)]
    by_cases h0 : (feedW (s.drop ((foll s).1 + 4))).2.1 ≠ 0
    · rw [if_pos h0, if_pos h0]
    · rw [if_neg h0, if_neg h0]; rfl
  termination_by n => n
  decreasing_by omega
theorem feed_len : ∀ (n : Nat) (s : List UInt8), s.length ≤ n → (feedW s).1.length + (feedW s).2.2.length ≤ s.length
  | n, s, hn => by
    by_cases h4 : s.length < 4
    · rw [feed_short h4]; simp
    by_cases hw : waits s
    · rw [feed_waits h4 hw]; simp
    by_cases hf : (foll s).2 = 0
    case neg => rw [feed_foll h4 hf]; simp
    have hl : ¬ s.length - 4 < (foll s).1 := fun h => hw ⟨hf, h⟩
    have hp := foll_pos hf
    by_cases hd : (decW (s.take ((foll s).1 + 4))).2 = 0
    case neg => rw [feed_bad h4 hf hl hd]; simp
    have hdl : (s.drop ((foll s).1 + 4)).length = s.length - ((foll s).1 + 4) := List.length_drop
    have ih := feed_len (n - 1) (s.drop ((foll s).1 + 4)) (by omega)
    rw [feed_good h4 hf hl hd]
    simp only [List.length_cons]
    omega
  termination_by n => n
  decreasing_by omega
theorem feed_nm : ∀ (n : Nat) (s : List UInt8), s.length ≤ n → ∀ m ∈ (feedW s).1, Nm m
  | n, s, hn => by
    by_cases h4 : s.length < 4
    · rw [feed_short h4]; simp
    by_cases hw : waits s
    · rw [feed_waits h4 hw]; simp
    by_cases hf : (foll s).2 = 0
    case neg => rw [feed_foll h4 hf]; simp
    have hl : ¬ s.length - 4 < (foll s).1 := fun h => hw ⟨hf, h⟩
    have hp := foll_pos hf
    by_cases hd : (decW (s.take ((foll s).1 + 4))).2 = 0
    case neg => rw [feed_bad h4 hf hl hd]; simp
    have hdl : (s.drop ((foll s).1 + 4)).length = s.length - ((foll s).1 + 4) := List.length_drop
    have ih := feed_nm (n - 1) (s.drop ((foll s).1 + 4)) (by omega)
    rw [feed_good h4 hf hl hd]
    intro m hm
    rcases List.mem_cons.1 hm with e | e
    · rw [e]; exact decW_nm _
    · exact ih m e
  termination_by n => n
  decreasing_by omega
theorem push_step (c p : List UInt8) : feedW (c ++ p) = ((feedW c).1 ++ (pushW (feedW c).2.2 (feedW c).2.1 p).1, (pushW (feedW c).2.2 (feedW c).2.1 p).2.1, (pushW (feedW c).2.2 (feedW c).2.1 p).2.2.1) ∧ (pushW (feedW c).2.2 (feedW c).2.1 p).2.2.2 = (pushW (feedW c).2.2 (feedW c).2.1 p).2.1 := by
  rw [feed_append p c.length c (Nat.le_refl _)]
  unfold pushW
  by_cases h : (feedW c).2.1 ≠ 0
  · rw [if_pos h, if_pos h]
    exact ⟨by simp, rfl⟩
  · rw [if_neg h, if_neg h]
    exact ⟨rfl, rfl⟩
end Go.Proofs.YthkfcfkkamffpaaGreat
