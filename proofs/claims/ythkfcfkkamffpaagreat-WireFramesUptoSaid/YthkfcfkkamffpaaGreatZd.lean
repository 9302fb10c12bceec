/-
  Layer 27 in plain Lean: a stream of frames.
-/
import Derived.Test.YthkfcfkkamffpaaGreatZc
import Derived.Test.YthkfcfkkamffpaaGreatYj
namespace Go.Proofs.YthkfcfkkamffpaaGreat
set_option linter.unusedVariables false
set_option linter.unusedSimpArgs false
open Wm (M)
/-- is there a whole frame's length ahead that is not there yet? -/
def waits (s : List UInt8) : Prop := (foll s).2 = 0 ∧ s.length - 4 < (foll s).1
instance (s : List UInt8) : Decidable (waits s) := inferInstanceAs (Decidable (_ ∧ _))
/-- the messages told of a stream, the error, what is held -/
def feedW (s : List UInt8) : List M × Nat × List UInt8 :=
  if h4 : s.length < 4 then ([], 0, s) else
  if waits s then ([], 0, s) else
  if (foll s).2 ≠ 0 then ([], (foll s).2, []) else
  if (decW (s.take ((foll s).1 + 4))).2 ≠ 0 then ([], (decW (s.take ((foll s).1 + 4))).2, []) else
  ((decW (s.take ((foll s).1 + 4))).1 :: (feedW (s.drop ((foll s).1 + 4))).1, (feedW (s.drop ((foll s).1 + 4))).2)
termination_by s.length
decreasing_by all_goals (simp only [List.length_drop]; omega)
theorem feed_short {s : List UInt8} (h : s.length < 4) : feedW s = ([], 0, s) := by rw [feedW, dif_pos h]
theorem feed_waits {s : List UInt8} (h4 : ¬ s.length < 4) (h : waits s) : feedW s = ([], 0, s) := by rw [feedW, dif_neg h4, if_pos h]
theorem feed_foll {s : List UInt8} (h4 : ¬ s.length < 4) (h : (foll s).2 ≠ 0) : feedW s = ([], (foll s).2, []) := by rw [feedW, dif_neg h4, if_neg (fun e => h e.1), if_pos h]
theorem feed_bad {s : List UInt8} (h4 : ¬ s.length < 4) (hf : (foll s).2 = 0) (hl : ¬ s.length - 4 < (foll s).1) (h : (decW (s.take ((foll s).1 + 4))).2 ≠ 0) : feedW s = ([], (decW (s.take ((foll s).1 + 4))).2, []) := by
  rw [feedW, dif_neg h4, if_neg (fun e => hl e.2), if_neg (by omega), if_pos h]
theorem feed_good {s : List UInt8} (h4 : ¬ s.length < 4) (hf : (foll s).2 = 0) (hl : ¬ s.length - 4 < (foll s).1) (h : (decW (s.take ((foll s).1 + 4))).2 = 0) :
    feedW s = ((decW (s.take ((foll s).1 + 4))).1 :: (feedW (s.drop ((foll s).1 + 4))).1, (feedW (s.drop ((foll s).1 + 4))).2) := by
  conv => lhs; rw [feedW, dif_neg h4, if_neg (fun e => hl e.2), if_neg (by omega), if_neg (by omega)]
/-- a Reader's push: what is told, the error; what it holds and its state then -/
def pushW (held : List UInt8) (st : Nat) (piece : List UInt8) : List M × Nat × List UInt8 × Nat :=
  if st ≠ 0 then ([], st, held, st) else ((feedW (held ++ piece)).1, (feedW (held ++ piece)).2.1, (feedW (held ++ piece)).2.2, (feedW (held ++ piece)).2.1)
theorem decW_nm (s : List UInt8) : Nm (decW s).1 := by
  have hz : Nm zeroM := only_nm (by omega) (by omega)
  unfold decW
  split
  · exact hz
  split
  · exact hz
  split
  · exact hz
  split
  · exact hz
  unfold bodyW
  split
  case isFalse => exact hz
  split
  · exact hz
  split
  case isFalse => exact hz
  split
  case isFalse => exact hz
  exact takes_nm _ _ (only_nm num1 numId)
end Go.Proofs.YthkfcfkkamffpaaGreat
