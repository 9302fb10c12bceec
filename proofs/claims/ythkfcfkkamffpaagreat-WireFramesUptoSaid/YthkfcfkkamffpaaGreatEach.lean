/-
  pack.Each at each type that the statements reach: how many things there are, and each of them by the function that is handed in. Printed by gen_pack.py.
-/
import Derived.Test.YthkfcfkkamffpaaGreatWt
namespace Go.Proofs.YthkfcfkkamffpaaGreat
open Go.RowKit
set_option linter.unusedVariables false

theorem wrote_then {w w1 w2 : World} {g : Nat} {v v1 : Value} {ys : List UInt8} (hc1 : Chg (fun k => k = g ∨ v.ownBlock = some k) w w1)
    (hv1 : ∀ k, v1.ownBlock = some k → v.ownBlock = some k ∨ w.heap.size ≤ k) (h2 : Wrote w1 w2 g v1 ys) : Wrote w w2 g v ys := by
  obtain ⟨v2, h2, hc2, hv2⟩ := h2
  refine ⟨v2, h2, hc1.andThen hc2 ?_, ?_⟩
  · intro k hk hs
    rcases hs with rfl | hs
    · exact .inl rfl
    · rcases hv1 k hs with h | h
      · exact .inr h
      · omega
  · intro k hk
    rcases hv2 k hk with h | h
    · exact hv1 k h
    · right; have := hc1.size; omega

end Go.Proofs.YthkfcfkkamffpaaGreat
