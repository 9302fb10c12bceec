/-
  heartwoodlaw01.lay: a Step laid by the program, one walk for each kind. Printed by gen_lay.py.
-/
import Derived.Test.YthkfcfkkamffpaaGreatPure
import Derived.Deep.RegionWith
namespace Go.Proofs.YthkfcfkkamffpaaGreat
open Go.RowKit
set_option linter.unusedVariables false

/-- a Step's bytes -/
def St.bytes (x : St) : List UInt8 :=
  if x.kind < 0 ∨ 16 < x.kind then [] else match x.kind.toNat with
  | 0 => Pk.be 1 x.n | 1 => Pk.be 2 x.n | 2 => Pk.be 4 x.n | 3 => Pk.be 8 x.n | 4 => Pk.be 1 x.n | 5 => Pk.be 2 x.n | 6 => Pk.be 4 x.n | 7 => Pk.be 8 x.n | 8 => Pk.be 2 x.n
  | 9 => Pk.free x.n | 10 => Pk.free (Pk.zig x.i) | 11 => x.parts.flatten | 12 => Pk.free x.s.length ++ x.s | 13 => (dig x.s).take (wd x.width)
  | 14 => Pk.free x.bn ++ (x.ns.map Pk.free).flatten | _ => Pk.free x.an ++ (x.parts.map Pk.text).flatten
theorem St.bytes_no {x : St} (h : x.kind < 0 ∨ 16 < x.kind) : x.bytes = [] := by unfold St.bytes; rw [if_pos h]
end Go.Proofs.YthkfcfkkamffpaaGreat
