/-
  pack.Reader: Fault and End.
-/
import Derived.Test.YtlhdbkbgedlmnaaDoorRraw
import Derived.BigRegion
namespace Go.Proofs.YtlhdbkbgedlmnaaDoor
open Go.RowKit
set_option linter.unusedVariables false

/-- v is a new Fault of that number and place. -/
def IsFault (w w' : World) (v : Value) (c p : Nat) : Prop := ∃ g, v = .pointer (some ⟨g, 0, none⟩) ∧ Blk w' g 121 #[.int .i64 c, .int .i64 p] ∧ Chg (fun _ => False) w w' ∧ w.heap.size ≤ g

set_option maxHeartbeats 1000000 in
set_option maxRecDepth 100000 in
theorem fault_no (g : Nat) (r : Pk.Rd) (w : World) (h : IsR w g r) (hf : r.f = 0) :
    Calls Tryd.prog 57 #[.pointer (some ⟨g, 0, none⟩)] w fun e w' => e = .returned (.pointer none) ∧ w = w' := by
  have c3 : w.cell? ⟨g, 3, none⟩ = some (.int .i64 0) := by rw [h.c3, hf]; rfl
  clear hf
  go_enter Tryd.func57, Tryd.ntmps57
  go_wp2_with fail
  go_ret
  exact ⟨rfl, rfl⟩
set_option maxHeartbeats 1000000 in
set_option maxRecDepth 100000 in
theorem fault_yes (g : Nat) (r : Pk.Rd) (w : World) (h : IsR w g r) (hf : r.f ≠ 0) :
    Calls Tryd.prog 57 #[.pointer (some ⟨g, 0, none⟩)] w fun e w' => ∃ v, e = .returned v ∧ IsFault w w' v r.f r.pos := by
  have c2 := h.c2
  have c3 := h.c3
  have hne : ((r.f : Int) == 0) = false := by simpa using hf
  clear hf
  go_enter Tryd.func57, Tryd.ntmps57
  go_wp2_with fail
  go_region
  all_goals
    go_wp2_with fail
    go_ret
    refine ⟨_, rfl, _, rfl, ?_, ?_, ?_⟩
    · exact (Blk.new w _ _).drew
    · exact ((Chg.refl _ _).alloc _).drew
    · exact Nat.le_refl _

end Go.Proofs.YtlhdbkbgedlmnaaDoor
