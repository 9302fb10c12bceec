/-
  pack.List at the types whose things are one cell: the list of what the function that is handed in reads. Printed by gen_pack.py.
-/
import Derived.Test.YthkfcfkkamffpaaGreatRend
import Derived.Test.YthkfcfkkamffpaaGreatWm
namespace Go.Proofs.YthkfcfkkamffpaaGreat
open Go.RowKit
set_option linter.unusedVariables false

theorem info_u64 : (Tryz.prog.info? 25).map (fun i => (i.zero, i.size, i.bytes)) = some (some (.int .u64 0), 1, 8) := by kernel_rfl
theorem info_str : (Tryz.prog.info? 9).map (fun i => (i.zero, i.size, i.bytes)) = some (some (.string ⟨#[]⟩), 1, 16) := by kernel_rfl

/-- The function value (F, caps) reads one thing, in the state k of what it has captured. -/
def Reads1 {α : Type} (val : α → Value) (step : Pk.Rd → α × Pk.Rd) (T : Nat → Prop) (I : Nat → World → Prop) (g F : Nat) (caps : Array Value) : Prop :=
  ∀ (k : Nat) (r : Pk.Rd) (w : World), IsR w g r → r.f = 0 → I k w →
    Calls Tryz.prog F (#[.pointer (some ⟨g, 0, none⟩)] ++ caps) w fun e w' => e = .returned (val (step r).1) ∧ IsR w' g (step r).2 ∧ (step r).2.s = r.s ∧ Chg (fun b => b = g ∨ T b) w w' ∧ I (k + 1) w'

theorem heads_of {r : Pk.Rd} {most : Int} (hf : r.f = 0) (h : (r.free most.toNat).2.f = 0) (hl : (r.free most.toNat).1 ≤ (r.free most.toNat).2.left) : r.heads most = r.free most.toNat := by
  unfold Pk.Rd.heads; rw [if_neg (by omega), if_neg (by omega), if_neg (by omega)]
theorem heads_most {r : Pk.Rd} {most : Int} (hf : r.f = 0) (h : (r.free most.toNat).2.f = 0) (hl : (r.free most.toNat).2.left < (r.free most.toNat).1) : r.heads most = (0, { (r.free most.toNat).2 with f := 12, pos := r.pos }) := by
  unfold Pk.Rd.heads; rw [if_neg (by omega), if_neg (by omega), if_pos hl]
theorem heads_bad {r : Pk.Rd} {most : Int} (hf : r.f = 0) (h : (r.free most.toNat).2.f ≠ 0) : r.heads most = (0, (r.free most.toNat).2) := by
  unfold Pk.Rd.heads; rw [if_neg (by omega), if_pos h]
theorem heads_dead {r : Pk.Rd} {most : Int} (hf : r.f ≠ 0) : r.heads most = (0, r) := by
  unfold Pk.Rd.heads; rw [if_pos hf]

end Go.Proofs.YthkfcfkkamffpaaGreat
