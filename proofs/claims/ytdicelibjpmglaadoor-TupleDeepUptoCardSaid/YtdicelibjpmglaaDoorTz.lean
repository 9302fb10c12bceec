/-
  Layer 3: an int that came in.
-/
import Derived.Test.YtdicelibjpmglaaDoorTw
namespace Go.Proofs.YtdicelibjpmglaaDoor
open Go.ChangeShapes Go.WideShapes Go.ChangeAt Go.RowKit Go.Deep

set_option linter.unusedVariables false
section
variable {H : Type} {enc : TypeId × Value → H}
set_option maxRecDepth 100000 in
/-- an int that came in -/
theorem opens_int {W : World} {base : Nat} {v : Value} {d : DataW H} {p : List MemPlace} (hval : Value.okWide Tryd.prog W .any base 3 v)
    (h : DataW.Trod enc Tryd.prog W 0 (fun _ => true) true 3 v d p) : ∃ a : Int, v = .int .i64 a ∧ (-9223372036854775808 ≤ a ∧ a < 9223372036854775808) := by
  obtain ⟨x, rfl, rfl, rfl, hw⟩ := open_int Tryd.underlying3 hval h
  have hb : -9223372036854775808 ≤ x ∧ x < 9223372036854775808 := by
    simp [Lit.wf, IntKind.min, IntKind.max, IntKind.signed, IntKind.bits] at hw
    omega
  exact ⟨x, rfl, hb⟩
end
end Go.Proofs.YtdicelibjpmglaaDoor
