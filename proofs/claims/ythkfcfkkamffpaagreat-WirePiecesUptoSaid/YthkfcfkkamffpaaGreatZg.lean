/-
  Layer 27: what a Reader tells, put behind a list of one's own.
-/
import Derived.Test.YthkfcfkkamffpaaGreatZf
import Derived.Test.YthkfcfkkamffpaaGreatYy
namespace Go.Proofs.YthkfcfkkamffpaaGreat
open Go.RowKit
set_option linter.unusedVariables false
set_option linter.unusedSimpArgs false
open Wm (M)
/-- of the stream c that was pushed to the Reader gb so far, the messages Z are told: they lie in the list mv -/
structure Pc (gb : Nat) (W0 : World) (c : List UInt8) (mv : Value) (Z : List (M × Ls)) (wr : World) : Prop where
  own : wr.ownsRow W0.heap.size 36 84 mv Z.length (Z.flatMap fun x => mc x.1 x.2)
  ls : ∀ x ∈ Z, OwnL wr W0.heap.size x.1 x.2
  told : Z.map Prod.fst = (feedW c).1
  rd : IsRd wr gb (feedW c).2.2 (feedW c).2.1
  chg : Chg (fun b => b = gb) W0 wr
theorem Pc.zero {gb : Nat} {W0 : World} (h : IsRd W0 gb [] 0) : Pc gb W0 [] (.slice none 0 0) [] W0 :=
  ⟨World.ownsRow_nil _ _ _ _, fun x hx => by simp at hx, by rw [feed_short (by simp)]; rfl, by rw [feed_short (by simp)]; exact h, Chg.refl _ _⟩
/-- what the walk wants of a push -/
structure Pd (gb : Nat) (W0 : World) (c p : List UInt8) (mv : Value) (Z : List (M × Ls)) (wy : World) (A : Option Addr) (X : List (M × Ls)) : Prop where
  own : wy.ownsRow W0.heap.size 36 84 mv Z.length (Z.flatMap fun x => mc x.1 x.2)
  rd : Reads wy wy.heap.size 84 A X.length (X.flatMap fun x => mc x.1 x.2)
  one : ∀ u ∈ (X.flatMap fun x => mc x.1 x.2), u.oneCell' = true
  len : Z.length + X.length ≤ (c ++ p).length
  base : W0.heap.size ≤ wy.heap.size
  next : ∀ v4 w4, w4.ownsRow W0.heap.size 36 84 v4 (Z.length + X.length) ((Z.flatMap fun x => mc x.1 x.2) ++ X.flatMap fun x => mc x.1 x.2) → Chg (fun k => mv.ownBlock = some k) wy w4 → Pc gb W0 (c ++ p) v4 (Z ++ X) w4
theorem Pc.push {gb : Nat} {W0 : World} {c : List UInt8} {mv : Value} {Z : List (M × Ls)} {wr : World} (h : Pc gb W0 c mv Z wr) (hg : gb < W0.heap.size) {p : List UInt8} {wy : World} {e : Ending} (he : PushE gb (feedW c).2.2 (feedW c).2.1 p wr wy e) :
    ∃ A cap X, e = .returned (.tuple #[.slice A X.length cap, .int .i64 ((feedW (c ++ p)).2.1 : Nat)]) ∧ Pd gb W0 c p mv Z wy A X := by
  obtain ⟨v, X, h1, h2, h3, h4, h5, h6⟩ := he
  obtain ⟨hs, hst⟩ := push_step c p
  obtain ⟨A, cap, rfl⟩ := own_form h3
  have hsz := h.chg.size
  have hys := h6.size
  have hown := own_chg h.own h6 (fun k hk e => by subst e; exact own_blk_ne h.own h.rd (by decide) hk)
  have hfl := feed_len _ (c ++ p) (Nat.le_refl _)
  have hls : ∀ x ∈ Z ++ X, OwnL wy W0.heap.size x.1 x.2 := fun x hx => by
    rcases List.mem_append.1 hx with hx | hx
    · exact (h.ls x hx).keep h6 (fun b hb e => by have := ((h.ls x hx).lt hb).1; omega)
    · exact (h4.mem x hx).low (by omega)
  refine ⟨A, cap, X, by rw [h1, hs], hown, Reads.of_own h3, ?_, ?_, by omega, ?_⟩
  · intro u hu
    obtain ⟨x, hx, hu⟩ := List.mem_flatMap.1 hu
    have := mcells_one x.1 x.2 ((h4.mem x hx).isl).slc
    rw [Array.all_eq_true_iff_forall_mem] at this
    exact this u (by simpa [mcells] using hu)
  · have a1 := congrArg List.length h.told
    have a2 := congrArg List.length h2
    have a3 := congrArg (fun x => x.1.length) hs
    simp only [List.length_map, List.length_append] at a1 a2 a3
    rw [List.length_append]
    rw [List.length_append] at hfl
    omega
  · intro v4 w4 h7 h8
    refine ⟨?_, ?_, ?_, ?_, ?_⟩
    · rw [List.length_append, List.flatMap_append]; exact h7
    · exact fun x hx => (hls x hx).keep h8 (fun b hb e => LB.ne (hls x hx) hown hb e)
    · rw [hs, List.map_append, h.told, h2]
    · rw [hs]
      dsimp only
      rw [← hst]
      exact h5.chg h8 (fun e => own_blk_ne hown h5 (by decide) e)
    · exact (h.chg.trans h6).andThen h8 (fun k hk e => by have := (hown.lt k e).1; omega)
end Go.Proofs.YthkfcfkkamffpaaGreat
