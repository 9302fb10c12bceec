/-
  Layer 3: the walk of TupleNames.
-/
import Derived.Test.YtdicelibjpmglaaDoorTu
namespace Go.Proofs.YtdicelibjpmglaaDoor
open Go.RowKit
set_option linter.unusedVariables false
set_option linter.unusedSimpArgs false

set_option maxHeartbeats 1000000 in
set_option maxRecDepth 100000 in
theorem tupleNames_walk (W : World) (hsh : W.ShapedOpen Tryd.prog) : Calls Tryd.prog 6 #[] W fun e w' => e = .returned (.bool true) ∧ Chg (fun _ => False) W w' := by
  obtain ⟨m, hm⟩ := (Tryd.laysM143).s1_3 W hsh
  have HA := Lib.hid (awake_calls W m hm)
  clear hm
  go_enter Tryd.func6, Tryd.ntmps6
  go_wp2_with fail
  refine HA.out.mono ?_
  rintro e w1 ⟨rfl, hc1⟩
  go_wp2_with fail
  go_ret
  exact ⟨rfl, hc1⟩
end Go.Proofs.YtdicelibjpmglaaDoor
