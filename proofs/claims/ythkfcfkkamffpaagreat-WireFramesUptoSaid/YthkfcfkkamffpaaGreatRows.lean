/-
  No cell of these rows narrows 'for every input' (looked for: loops, veiled, ifaces, maps, wideKeys, modest, calm, conditions, laid).
  DERIVED. THE GIVEN ROWS OF THIS SEAT. 12 by the template 'for every input the law returns true; each argument reads behind the call as it read before'; 0 by the template 'total and deterministic' (their statements: YthkfcfkkamffpaaGreatTotals.lean).
  GIVEN WITH THE SEED: the statements are not yours to turn. If you find one false, say at which input.
  Laid BY PROGRAM, IN A SANDBOX (cutbox-rows.mjs): the forced cells as the released guide's own fill.sh prints them over the translation 8d0d7d63044088fe… (all of the seat's roots in one cut). By AI agents, Wed Nov 11 2026. No macro, syntax, notation, axiom, sorry.
-/
import Derived.Test.YthkfcfkkamffpaaGreatChecked
import GoSem.Claim
import GoSem.ClaimJoined
import GoSem.ClaimMapViews
import Derived.JoinedTies
import Derived.KernelRfl
namespace Go.Proofs.YthkfcfkkamffpaaGreat
/- THE CELL 'sum', in the pinned program and in every row, IS THE sha256 OF THE DUMP (.gsa) THAT YthkfcfkkamffpaaGreatProg.lean LOADS. Nothing in Lean hashes anything: it is a label: what it is worth is what the hold of that sum in a sandbox is worth. -/
noncomputable def Tryz.pinned : Pinned := { name := "ythkfcfkkamffpaagreat", sum := "8d0d7d63044088fe248444a2630e819f4e65a6acbfe126527e6dc5af80b3d443", checked := Tryz.checked }
namespace Rows
def none {H : Type} : Left H := { results := [], args := [] }

/-- 'heartwoodlaw27.WireEncodes': WHATEVER THE INPUT: true; the input reads as it did. -/
def wireEncodesSpec : ChangeSpec := { name := "wireEncodes", fn := fun _ => fun
  | [d] => { results := [.lit (.bool true)], args := [d] }
  | _ => none }
def wireEncodesRow : OpenClaim := { program := "ythkfcfkkamffpaagreat", sum := "8d0d7d63044088fe248444a2630e819f4e65a6acbfe126527e6dc5af80b3d443", func := "heartwood/heartwoodlaw27.WireEncodes", spec := "wireEncodes", unfollowed := true, recurses := true, apart := false }
def WireEncodesSaid : Prop := wireEncodesRow.holds Tryz.pinned (OpenSpec.ofChange wireEncodesSpec)

/-- ITS FALSE NEIGHBOUR: 'it returns false'. Refute it at one input. -/
def wireEncodesWrong : ChangeSpec := { name := "wireEncodes", fn := fun _ => fun
  | [d] => { results := [.lit (.bool false)], args := [d] }
  | _ => none }
def WireEncodesWrongFalsely : Prop := wireEncodesRow.holds Tryz.pinned (OpenSpec.ofChange wireEncodesWrong)

/-- 'heartwoodlaw27.WireDecodes': WHATEVER THE INPUT: true; the input reads as it did. -/
def wireDecodesSpec : ChangeSpec := { name := "wireDecodes", fn := fun _ => fun
  | [d] => { results := [.lit (.bool true)], args := [d] }
  | _ => none }
def wireDecodesRow : OpenClaim := { program := "ythkfcfkkamffpaagreat", sum := "8d0d7d63044088fe248444a2630e819f4e65a6acbfe126527e6dc5af80b3d443", func := "heartwood/heartwoodlaw27.WireDecodes", spec := "wireDecodes", unfollowed := true, recurses := true, apart := false }
def WireDecodesSaid : Prop := wireDecodesRow.holds Tryz.pinned (OpenSpec.ofChange wireDecodesSpec)

/-- ITS FALSE NEIGHBOUR: 'it returns false'. Refute it at one input. -/
def wireDecodesWrong : ChangeSpec := { name := "wireDecodes", fn := fun _ => fun
  | [d] => { results := [.lit (.bool false)], args := [d] }
  | _ => none }
def WireDecodesWrongFalsely : Prop := wireDecodesRow.holds Tryz.pinned (OpenSpec.ofChange wireDecodesWrong)

/-- 'heartwoodlaw27.WireSames': WHATEVER THE INPUT: true; the input reads as it did. -/
def wireSamesSpec : ChangeSpec := { name := "wireSames", fn := fun _ => fun
  | [d1, d2] => { results := [.lit (.bool true)], args := [d1, d2] }
  | _ => none }
def wireSamesRow : OpenClaim := { program := "ythkfcfkkamffpaagreat", sum := "8d0d7d63044088fe248444a2630e819f4e65a6acbfe126527e6dc5af80b3d443", func := "heartwood/heartwoodlaw27.WireSames", spec := "wireSames", unfollowed := true, recurses := true, apart := false }
def WireSamesSaid : Prop := wireSamesRow.holds Tryz.pinned (OpenSpec.ofChange wireSamesSpec)

/-- ITS FALSE NEIGHBOUR: 'it returns false'. Refute it at one input. -/
def wireSamesWrong : ChangeSpec := { name := "wireSames", fn := fun _ => fun
  | [d1, d2] => { results := [.lit (.bool false)], args := [d1, d2] }
  | _ => none }
def WireSamesWrongFalsely : Prop := wireSamesRow.holds Tryz.pinned (OpenSpec.ofChange wireSamesWrong)

/-- 'heartwoodlaw27.WireBack': WHATEVER THE INPUT: true; the input reads as it did. -/
def wireBackSpec : ChangeSpec := { name := "wireBack", fn := fun _ => fun
  | [d] => { results := [.lit (.bool true)], args := [d] }
  | _ => none }
def wireBackRow : OpenClaim := { program := "ythkfcfkkamffpaagreat", sum := "8d0d7d63044088fe248444a2630e819f4e65a6acbfe126527e6dc5af80b3d443", func := "heartwood/heartwoodlaw27.WireBack", spec := "wireBack", unfollowed := true, recurses := true, apart := false }
def WireBackSaid : Prop := wireBackRow.holds Tryz.pinned (OpenSpec.ofChange wireBackSpec)

/-- ITS FALSE NEIGHBOUR: 'it returns false'. Refute it at one input. -/
def wireBackWrong : ChangeSpec := { name := "wireBack", fn := fun _ => fun
  | [d] => { results := [.lit (.bool false)], args := [d] }
  | _ => none }
def WireBackWrongFalsely : Prop := wireBackRow.holds Tryz.pinned (OpenSpec.ofChange wireBackWrong)

/-- 'heartwoodlaw27.WireAgain': WHATEVER THE INPUT: true; the input reads as it did. -/
def wireAgainSpec : ChangeSpec := { name := "wireAgain", fn := fun _ => fun
  | [d] => { results := [.lit (.bool true)], args := [d] }
  | _ => none }
def wireAgainRow : OpenClaim := { program := "ythkfcfkkamffpaagreat", sum := "8d0d7d63044088fe248444a2630e819f4e65a6acbfe126527e6dc5af80b3d443", func := "heartwood/heartwoodlaw27.WireAgain", spec := "wireAgain", unfollowed := true, recurses := true, apart := false }
def WireAgainSaid : Prop := wireAgainRow.holds Tryz.pinned (OpenSpec.ofChange wireAgainSpec)

/-- ITS FALSE NEIGHBOUR: 'it returns false'. Refute it at one input. -/
def wireAgainWrong : ChangeSpec := { name := "wireAgain", fn := fun _ => fun
  | [d] => { results := [.lit (.bool false)], args := [d] }
  | _ => none }
def WireAgainWrongFalsely : Prop := wireAgainRow.holds Tryz.pinned (OpenSpec.ofChange wireAgainWrong)

/-- 'heartwoodlaw27.WireTurned': WHATEVER THE INPUT: true; the input reads as it did. -/
def wireTurnedSpec : ChangeSpec := { name := "wireTurned", fn := fun _ => fun
  | [d1, d2, d3, d4] => { results := [.lit (.bool true)], args := [d1, d2, d3, d4] }
  | _ => none }
def wireTurnedRow : OpenClaim := { program := "ythkfcfkkamffpaagreat", sum := "8d0d7d63044088fe248444a2630e819f4e65a6acbfe126527e6dc5af80b3d443", func := "heartwood/heartwoodlaw27.WireTurned", spec := "wireTurned", unfollowed := true, recurses := true, apart := false }
def WireTurnedSaid : Prop := wireTurnedRow.holds Tryz.pinned (OpenSpec.ofChange wireTurnedSpec)

/-- ITS FALSE NEIGHBOUR: 'it returns false'. Refute it at one input. -/
def wireTurnedWrong : ChangeSpec := { name := "wireTurned", fn := fun _ => fun
  | [d1, d2, d3, d4] => { results := [.lit (.bool false)], args := [d1, d2, d3, d4] }
  | _ => none }
def WireTurnedWrongFalsely : Prop := wireTurnedRow.holds Tryz.pinned (OpenSpec.ofChange wireTurnedWrong)

/-- 'heartwoodlaw27.WireNames': WHATEVER THE INPUT: true; the input reads as it did. -/
def wireNamesSpec : ChangeSpec := { name := "wireNames", fn := fun _ => fun
  | [] => { results := [.lit (.bool true)], args := [] }
  | _ => none }
def wireNamesRow : OpenClaim := { program := "ythkfcfkkamffpaagreat", sum := "8d0d7d63044088fe248444a2630e819f4e65a6acbfe126527e6dc5af80b3d443", func := "heartwood/heartwoodlaw27.WireNames", spec := "wireNames", unfollowed := true, recurses := true, apart := false }
def WireNamesSaid : Prop := wireNamesRow.holds Tryz.pinned (OpenSpec.ofChange wireNamesSpec)

/-- ITS FALSE NEIGHBOUR: 'it returns false'. Refute it at one input. -/
def wireNamesWrong : ChangeSpec := { name := "wireNames", fn := fun _ => fun
  | [] => { results := [.lit (.bool false)], args := [] }
  | _ => none }
def WireNamesWrongFalsely : Prop := wireNamesRow.holds Tryz.pinned (OpenSpec.ofChange wireNamesWrong)

/-- 'heartwoodlaw27.WireReads': WHATEVER THE INPUT: true; the input reads as it did. -/
def wireReadsSpec : ChangeSpec := { name := "wireReads", fn := fun _ => fun
  | [d1, d2] => { results := [.lit (.bool true)], args := [d1, d2] }
  | _ => none }
def wireReadsRow : OpenClaim := { program := "ythkfcfkkamffpaagreat", sum := "8d0d7d63044088fe248444a2630e819f4e65a6acbfe126527e6dc5af80b3d443", func := "heartwood/heartwoodlaw27.WireReads", spec := "wireReads", unfollowed := true, recurses := true, apart := false }
def WireReadsSaid : Prop := wireReadsRow.holds Tryz.pinned (OpenSpec.ofChange wireReadsSpec)

/-- ITS FALSE NEIGHBOUR: 'it returns false'. Refute it at one input. -/
def wireReadsWrong : ChangeSpec := { name := "wireReads", fn := fun _ => fun
  | [d1, d2] => { results := [.lit (.bool false)], args := [d1, d2] }
  | _ => none }
def WireReadsWrongFalsely : Prop := wireReadsRow.holds Tryz.pinned (OpenSpec.ofChange wireReadsWrong)

/-- 'heartwoodlaw27.WirePieces': WHATEVER THE INPUT: true; the input reads as it did. -/
def wirePiecesSpec : ChangeSpec := { name := "wirePieces", fn := fun _ => fun
  | [d1, d2] => { results := [.lit (.bool true)], args := [d1, d2] }
  | _ => none }
def wirePiecesRow : OpenClaim := { program := "ythkfcfkkamffpaagreat", sum := "8d0d7d63044088fe248444a2630e819f4e65a6acbfe126527e6dc5af80b3d443", func := "heartwood/heartwoodlaw27.WirePieces", spec := "wirePieces", unfollowed := true, recurses := true, apart := false }
def WirePiecesSaid : Prop := wirePiecesRow.holds Tryz.pinned (OpenSpec.ofChange wirePiecesSpec)

/-- ITS FALSE NEIGHBOUR: 'it returns false'. Refute it at one input. -/
def wirePiecesWrong : ChangeSpec := { name := "wirePieces", fn := fun _ => fun
  | [d1, d2] => { results := [.lit (.bool false)], args := [d1, d2] }
  | _ => none }
def WirePiecesWrongFalsely : Prop := wirePiecesRow.holds Tryz.pinned (OpenSpec.ofChange wirePiecesWrong)

/-- 'heartwoodlaw27.WireNil': WHATEVER THE INPUT: true; the input reads as it did. -/
def wireNilSpec : ChangeSpec := { name := "wireNil", fn := fun _ => fun
  | [] => { results := [.lit (.bool true)], args := [] }
  | _ => none }
def wireNilRow : OpenClaim := { program := "ythkfcfkkamffpaagreat", sum := "8d0d7d63044088fe248444a2630e819f4e65a6acbfe126527e6dc5af80b3d443", func := "heartwood/heartwoodlaw27.WireNil", spec := "wireNil", unfollowed := true, recurses := true, apart := false }
def WireNilSaid : Prop := wireNilRow.holds Tryz.pinned (OpenSpec.ofChange wireNilSpec)

/-- ITS FALSE NEIGHBOUR: 'it returns false'. Refute it at one input. -/
def wireNilWrong : ChangeSpec := { name := "wireNil", fn := fun _ => fun
  | [] => { results := [.lit (.bool false)], args := [] }
  | _ => none }
def WireNilWrongFalsely : Prop := wireNilRow.holds Tryz.pinned (OpenSpec.ofChange wireNilWrong)

/-- 'heartwoodlaw27.WireFrames': WHATEVER THE INPUT: true; the input reads as it did. -/
def wireFramesSpec : ChangeSpec := { name := "wireFrames", fn := fun _ => fun
  | [d] => { results := [.lit (.bool true)], args := [d] }
  | _ => none }
def wireFramesRow : OpenClaim := { program := "ythkfcfkkamffpaagreat", sum := "8d0d7d63044088fe248444a2630e819f4e65a6acbfe126527e6dc5af80b3d443", func := "heartwood/heartwoodlaw27.WireFrames", spec := "wireFrames", unfollowed := true, recurses := true, apart := false }
def WireFramesSaid : Prop := wireFramesRow.holds Tryz.pinned (OpenSpec.ofChange wireFramesSpec)

/-- ITS FALSE NEIGHBOUR: 'it returns false'. Refute it at one input. -/
def wireFramesWrong : ChangeSpec := { name := "wireFrames", fn := fun _ => fun
  | [d] => { results := [.lit (.bool false)], args := [d] }
  | _ => none }
def WireFramesWrongFalsely : Prop := wireFramesRow.holds Tryz.pinned (OpenSpec.ofChange wireFramesWrong)

/-- 'heartwoodlaw27.WireStream': WHATEVER THE INPUT: true; the input reads as it did. -/
def wireStreamSpec : ChangeSpec := { name := "wireStream", fn := fun _ => fun
  | [d] => { results := [.lit (.bool true)], args := [d] }
  | _ => none }
def wireStreamRow : OpenClaim := { program := "ythkfcfkkamffpaagreat", sum := "8d0d7d63044088fe248444a2630e819f4e65a6acbfe126527e6dc5af80b3d443", func := "heartwood/heartwoodlaw27.WireStream", spec := "wireStream", unfollowed := true, recurses := true, apart := false }
def WireStreamSaid : Prop := wireStreamRow.holds Tryz.pinned (OpenSpec.ofChange wireStreamSpec)

/-- ITS FALSE NEIGHBOUR: 'it returns false'. Refute it at one input. -/
def wireStreamWrong : ChangeSpec := { name := "wireStream", fn := fun _ => fun
  | [d] => { results := [.lit (.bool false)], args := [d] }
  | _ => none }
def WireStreamWrongFalsely : Prop := wireStreamRow.holds Tryz.pinned (OpenSpec.ofChange wireStreamWrong)

/- THE SECOND FORM. 'bulk': how many values and letters a reading holds, each counted each time it is reached (what is shared counts as often as it is met; a slice's spare places count too). A statement '..UptoSaid' is the law's where the arguments, and the package variables that the reading takes, are together of bulk at most 1048576: NARROWER than '..Said'. Prove '..Said' where nothing that the law and all that it calls make is longer than what came in: it says more and counts as full. Else prove '..UptoSaid'. A law counts once. -/
mutual
def uptoBulk {H : Type} : DataW H → Nat
  | .lit (.string bytes) => bytes.length + 1
  | .lit _ => 1
  | .nil => 1
  | .ptr d => uptoBulk d + 1
  | .slice elems spare => uptoBulkAll elems + uptoBulkAll spare + 1
  | .agg parts => uptoBulkAll parts + 1
  | .iface _ d => uptoBulk d + 1
  | .map entries => uptoBulkEntries entries + 1
  | .held _ => 1
def uptoBulkAll {H : Type} : List (DataW H) → Nat
  | [] => 0
  | d :: r => uptoBulk d + uptoBulkAll r
def uptoBulkEntries {H : Type} : List (Lit × DataW H) → Nat
  | [] => 0
  | x :: r => uptoBulkEntry x + uptoBulkEntries r
def uptoBulkEntry {H : Type} : Lit × DataW H → Nat
  | (.string bytes, d) => bytes.length + uptoBulk d + 1
  | (_, d) => uptoBulk d + 1
 end
def uptoSmall : (H : Type) → List (DataW H) → Bool := fun _ ds => decide (uptoBulkAll ds ≤ 1048576)
def OpenSpec.upto (s : _root_.Go.ChangeSpec) : _root_.Go.OpenSpec := { _root_.Go.OpenSpec.ofChange s with cond := some uptoSmall }

/-- 'heartwoodlaw27.WireEncodes', WHERE WHAT IT READS IS OF BULK AT MOST 1048576: true; the input reads as it did. -/
def wireEncodesUptoRow : OpenClaim := { program := "ythkfcfkkamffpaagreat", sum := "8d0d7d63044088fe248444a2630e819f4e65a6acbfe126527e6dc5af80b3d443", func := "heartwood/heartwoodlaw27.WireEncodes", spec := "wireEncodes", unfollowed := true, recurses := true, apart := false, narrowed := true }
def WireEncodesUptoSaid : Prop := wireEncodesUptoRow.holds Tryz.pinned (OpenSpec.upto wireEncodesSpec)

/-- 'heartwoodlaw27.WireDecodes', WHERE WHAT IT READS IS OF BULK AT MOST 1048576: true; the input reads as it did. -/
def wireDecodesUptoRow : OpenClaim := { program := "ythkfcfkkamffpaagreat", sum := "8d0d7d63044088fe248444a2630e819f4e65a6acbfe126527e6dc5af80b3d443", func := "heartwood/heartwoodlaw27.WireDecodes", spec := "wireDecodes", unfollowed := true, recurses := true, apart := false, narrowed := true }
def WireDecodesUptoSaid : Prop := wireDecodesUptoRow.holds Tryz.pinned (OpenSpec.upto wireDecodesSpec)

/-- 'heartwoodlaw27.WireSames', WHERE WHAT IT READS IS OF BULK AT MOST 1048576: true; the input reads as it did. -/
def wireSamesUptoRow : OpenClaim := { program := "ythkfcfkkamffpaagreat", sum := "8d0d7d63044088fe248444a2630e819f4e65a6acbfe126527e6dc5af80b3d443", func := "heartwood/heartwoodlaw27.WireSames", spec := "wireSames", unfollowed := true, recurses := true, apart := false, narrowed := true }
def WireSamesUptoSaid : Prop := wireSamesUptoRow.holds Tryz.pinned (OpenSpec.upto wireSamesSpec)

/-- 'heartwoodlaw27.WireBack', WHERE WHAT IT READS IS OF BULK AT MOST 1048576: true; the input reads as it did. -/
def wireBackUptoRow : OpenClaim := { program := "ythkfcfkkamffpaagreat", sum := "8d0d7d63044088fe248444a2630e819f4e65a6acbfe126527e6dc5af80b3d443", func := "heartwood/heartwoodlaw27.WireBack", spec := "wireBack", unfollowed := true, recurses := true, apart := false, narrowed := true }
def WireBackUptoSaid : Prop := wireBackUptoRow.holds Tryz.pinned (OpenSpec.upto wireBackSpec)

/-- 'heartwoodlaw27.WireAgain', WHERE WHAT IT READS IS OF BULK AT MOST 1048576: true; the input reads as it did. -/
def wireAgainUptoRow : OpenClaim := { program := "ythkfcfkkamffpaagreat", sum := "8d0d7d63044088fe248444a2630e819f4e65a6acbfe126527e6dc5af80b3d443", func := "heartwood/heartwoodlaw27.WireAgain", spec := "wireAgain", unfollowed := true, recurses := true, apart := false, narrowed := true }
def WireAgainUptoSaid : Prop := wireAgainUptoRow.holds Tryz.pinned (OpenSpec.upto wireAgainSpec)

/-- 'heartwoodlaw27.WireTurned', WHERE WHAT IT READS IS OF BULK AT MOST 1048576: true; the input reads as it did. -/
def wireTurnedUptoRow : OpenClaim := { program := "ythkfcfkkamffpaagreat", sum := "8d0d7d63044088fe248444a2630e819f4e65a6acbfe126527e6dc5af80b3d443", func := "heartwood/heartwoodlaw27.WireTurned", spec := "wireTurned", unfollowed := true, recurses := true, apart := false, narrowed := true }
def WireTurnedUptoSaid : Prop := wireTurnedUptoRow.holds Tryz.pinned (OpenSpec.upto wireTurnedSpec)

/-- 'heartwoodlaw27.WireNames', WHERE WHAT IT READS IS OF BULK AT MOST 1048576: true; the input reads as it did. -/
def wireNamesUptoRow : OpenClaim := { program := "ythkfcfkkamffpaagreat", sum := "8d0d7d63044088fe248444a2630e819f4e65a6acbfe126527e6dc5af80b3d443", func := "heartwood/heartwoodlaw27.WireNames", spec := "wireNames", unfollowed := true, recurses := true, apart := false, narrowed := true }
def WireNamesUptoSaid : Prop := wireNamesUptoRow.holds Tryz.pinned (OpenSpec.upto wireNamesSpec)

/-- 'heartwoodlaw27.WireReads', WHERE WHAT IT READS IS OF BULK AT MOST 1048576: true; the input reads as it did. -/
def wireReadsUptoRow : OpenClaim := { program := "ythkfcfkkamffpaagreat", sum := "8d0d7d63044088fe248444a2630e819f4e65a6acbfe126527e6dc5af80b3d443", func := "heartwood/heartwoodlaw27.WireReads", spec := "wireReads", unfollowed := true, recurses := true, apart := false, narrowed := true }
def WireReadsUptoSaid : Prop := wireReadsUptoRow.holds Tryz.pinned (OpenSpec.upto wireReadsSpec)

/-- 'heartwoodlaw27.WirePieces', WHERE WHAT IT READS IS OF BULK AT MOST 1048576: true; the input reads as it did. -/
def wirePiecesUptoRow : OpenClaim := { program := "ythkfcfkkamffpaagreat", sum := "8d0d7d63044088fe248444a2630e819f4e65a6acbfe126527e6dc5af80b3d443", func := "heartwood/heartwoodlaw27.WirePieces", spec := "wirePieces", unfollowed := true, recurses := true, apart := false, narrowed := true }
def WirePiecesUptoSaid : Prop := wirePiecesUptoRow.holds Tryz.pinned (OpenSpec.upto wirePiecesSpec)

/-- 'heartwoodlaw27.WireNil', WHERE WHAT IT READS IS OF BULK AT MOST 1048576: true; the input reads as it did. -/
def wireNilUptoRow : OpenClaim := { program := "ythkfcfkkamffpaagreat", sum := "8d0d7d63044088fe248444a2630e819f4e65a6acbfe126527e6dc5af80b3d443", func := "heartwood/heartwoodlaw27.WireNil", spec := "wireNil", unfollowed := true, recurses := true, apart := false, narrowed := true }
def WireNilUptoSaid : Prop := wireNilUptoRow.holds Tryz.pinned (OpenSpec.upto wireNilSpec)

/-- 'heartwoodlaw27.WireFrames', WHERE WHAT IT READS IS OF BULK AT MOST 1048576: true; the input reads as it did. -/
def wireFramesUptoRow : OpenClaim := { program := "ythkfcfkkamffpaagreat", sum := "8d0d7d63044088fe248444a2630e819f4e65a6acbfe126527e6dc5af80b3d443", func := "heartwood/heartwoodlaw27.WireFrames", spec := "wireFrames", unfollowed := true, recurses := true, apart := false, narrowed := true }
def WireFramesUptoSaid : Prop := wireFramesUptoRow.holds Tryz.pinned (OpenSpec.upto wireFramesSpec)

/-- 'heartwoodlaw27.WireStream', WHERE WHAT IT READS IS OF BULK AT MOST 1048576: true; the input reads as it did. -/
def wireStreamUptoRow : OpenClaim := { program := "ythkfcfkkamffpaagreat", sum := "8d0d7d63044088fe248444a2630e819f4e65a6acbfe126527e6dc5af80b3d443", func := "heartwood/heartwoodlaw27.WireStream", spec := "wireStream", unfollowed := true, recurses := true, apart := false, narrowed := true }
def WireStreamUptoSaid : Prop := wireStreamUptoRow.holds Tryz.pinned (OpenSpec.upto wireStreamSpec)

end Rows
end Go.Proofs.YthkfcfkkamffpaaGreat
