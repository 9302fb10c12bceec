/-
  What pack.List reads, in plain Lean: a list whose things are read one by one, until the reader has a fault.
-/
import Derived.Test.YtkajbpdhglaieaaPk
namespace Go.Proofs.Ytkajbpdhglaieaa.Pk
variable {α : Type}
def Rd.loop (step : Rd → α × Rd) : Nat → List α → Rd → List α × Rd
  | 0, acc, r => (acc, r)
  | n + 1, acc, r => if (step r).2.f ≠ 0 then ([], (step r).2) else Rd.loop step n (acc ++ [(step r).1]) (step r).2
/-- how often the function is called -/
def Rd.count (step : Rd → α × Rd) : Nat → Rd → Nat
  | 0, _ => 0
  | n + 1, r => 1 + if (step r).2.f ≠ 0 then 0 else Rd.count step n (step r).2
/-- how many things there are; the reader behind that -/
def Rd.heads (r : Rd) (most : Int) : Nat × Rd :=
  if r.f ≠ 0 then (0, r) else
  if (r.free most.toNat).2.f ≠ 0 then (0, (r.free most.toNat).2) else
  if (r.free most.toNat).2.left < (r.free most.toNat).1 then (0, { (r.free most.toNat).2 with f := 12, pos := r.pos }) else r.free most.toNat
def Rd.list (r : Rd) (most : Int) (step : Rd → α × Rd) : List α × Rd := Rd.loop step (r.heads most).1 [] (r.heads most).2
theorem Rd.loop_bad {step : Rd → α × Rd} {n : Nat} {acc : List α} {r : Rd} (h : (step r).2.f ≠ 0) : Rd.loop step (n + 1) acc r = ([], (step r).2) := by simp only [Rd.loop, if_pos h]
theorem Rd.loop_good {step : Rd → α × Rd} {n : Nat} {acc : List α} {r : Rd} (h : (step r).2.f = 0) : Rd.loop step (n + 1) acc r = Rd.loop step n (acc ++ [(step r).1]) (step r).2 := by
  simp only [Rd.loop, if_neg (show ¬ (step r).2.f ≠ 0 by omega)]
theorem Rd.count_bad {step : Rd → α × Rd} {n : Nat} {r : Rd} (h : (step r).2.f ≠ 0) : Rd.count step (n + 1) r = 1 := by simp only [Rd.count, if_pos h]
theorem Rd.count_good {step : Rd → α × Rd} {n : Nat} {r : Rd} (h : (step r).2.f = 0) : Rd.count step (n + 1) r = 1 + Rd.count step n (step r).2 := by
  simp only [Rd.count, if_neg (show ¬ (step r).2.f ≠ 0 by omega)]
end Go.Proofs.Ytkajbpdhglaieaa.Pk
