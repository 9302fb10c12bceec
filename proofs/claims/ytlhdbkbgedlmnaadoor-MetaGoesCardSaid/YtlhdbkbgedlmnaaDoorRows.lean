/-
  NARROWER THAN 'FOR EVERY INPUT', by the rows' own cells (each row's printed sentence says how): MetaChecks: laid · MetaEncodes: laid · MetaDecodes: laid · MetaPicks: laid · MetaBack: laid · MetaTurned: laid · MetaWhole: laid · MetaGoes: laid · MetaNames: laid.
  DERIVED. THE GIVEN ROWS OF THIS SEAT. 9 by the template 'for every input the law returns true; each argument reads behind the call as it read before'; 0 by the template 'total and deterministic' (their statements: YtlhdbkbgedlmnaaDoorTotals.lean).
  GIVEN WITH THE SEED: the statements are not yours to turn. If you find one false, say at which input.
  Laid BY PROGRAM, IN A SANDBOX (cutbox-rows.mjs): the forced cells as the released guide's own fill.sh prints them over the translation 06261aa6036293a2… (all of the seat's roots in one cut). By AI agents, Wed Nov 11 2026. No macro, syntax, notation, axiom, sorry.
-/
import Derived.Test.YtlhdbkbgedlmnaaDoorChecked
import GoSem.PinnedTables
import GoSem.Claim
import GoSem.ClaimJoined
import GoSem.ClaimMapViews
import Derived.JoinedTies
import Derived.KernelRfl
namespace Go.Proofs.YtlhdbkbgedlmnaaDoor
/- THE CELL 'sum', in the pinned program and in every row, IS THE sha256 OF THE DUMP (.gsa) THAT YtlhdbkbgedlmnaaDoorProg.lean LOADS. Nothing in Lean hashes anything: it is a label: what it is worth is what the hold of that sum in a sandbox is worth. -/
noncomputable def Tryd.pinned : Pinned := { name := "ytlhdbkbgedlmnaadoor", sum := "06261aa6036293a292ce4a31ef303b30d7d759e1fbb74d6d7fba52e81c460aaf", checked := Tryd.checked }
namespace Rows
def none {H : Type} : Left H := { results := [], args := [] }

/- WHAT THE LISTED PACKAGE-LEVEL VARIABLES READ AS WHEN THE CALL BEGINS. Each datum BY PROGRAM (the guide's laid-datum.mjs) off the statement by which the dump's own 'gosem.cut.vars' lays the variable. In a bare row this is a premise. The card (YtlhdbkbgedlmnaaDoorCards.lean) ties it to the program's text. -/
def laid_unicode_utf8_acceptRanges {H : Type} : DataW H := .agg [.agg [.lit (.int .u8 128), .lit (.int .u8 191)], .agg [.lit (.int .u8 160), .lit (.int .u8 191)], .agg [.lit (.int .u8 128), .lit (.int .u8 159)], .agg [.lit (.int .u8 144), .lit (.int .u8 191)], .agg [.lit (.int .u8 128), .lit (.int .u8 143)], .agg [.lit (.int .u8 0), .lit (.int .u8 0)], .agg [.lit (.int .u8 0), .lit (.int .u8 0)], .agg [.lit (.int .u8 0), .lit (.int .u8 0)], .agg [.lit (.int .u8 0), .lit (.int .u8 0)], .agg [.lit (.int .u8 0), .lit (.int .u8 0)], .agg [.lit (.int .u8 0), .lit (.int .u8 0)], .agg [.lit (.int .u8 0), .lit (.int .u8 0)], .agg [.lit (.int .u8 0), .lit (.int .u8 0)], .agg [.lit (.int .u8 0), .lit (.int .u8 0)], .agg [.lit (.int .u8 0), .lit (.int .u8 0)], .agg [.lit (.int .u8 0), .lit (.int .u8 0)]]
/-- One of Go's own tables, pinned by name: the form's constant. -/
def laid_unicode_utf8_first : DataW Unit := Go.Pinned.utf8First

/-- 'heartwoodlaw06.MetaChecks': WHATEVER THE INPUT: true; the input reads as it did. -/
def metaChecksSpec : ChangeSpec := { name := "metaChecks", fn := fun _ => fun
  | [d1, d2] => { results := [.lit (.bool true)], args := [d1, d2] }
  | _ => none }
def metaChecksRow : OpenClaim := { program := "ytlhdbkbgedlmnaadoor", sum := "06261aa6036293a292ce4a31ef303b30d7d759e1fbb74d6d7fba52e81c460aaf", func := "heartwood/heartwoodlaw06.MetaChecks", spec := "metaChecks", inPlace := ["internal/bytealg.IndexByteString", "internal/bytealg.IndexString"], unfollowed := true, recurses := true, named := ["unicode/utf8.first", "unicode/utf8.acceptRanges", "internal/bytealg.MaxLen"], apart := false, laid := [("unicode/utf8.acceptRanges", laid_unicode_utf8_acceptRanges), ("unicode/utf8.first", laid_unicode_utf8_first)] }
def MetaChecksSaid : Prop := metaChecksRow.holds Tryd.pinned (OpenSpec.ofChange metaChecksSpec)

/-- ITS FALSE NEIGHBOUR: 'it returns false'. Refute it at one input. -/
def metaChecksWrong : ChangeSpec := { name := "metaChecks", fn := fun _ => fun
  | [d1, d2] => { results := [.lit (.bool false)], args := [d1, d2] }
  | _ => none }
def MetaChecksWrongFalsely : Prop := metaChecksRow.holds Tryd.pinned (OpenSpec.ofChange metaChecksWrong)

/-- 'heartwoodlaw06.MetaEncodes': WHATEVER THE INPUT: true; the input reads as it did. -/
def metaEncodesSpec : ChangeSpec := { name := "metaEncodes", fn := fun _ => fun
  | [d1, d2] => { results := [.lit (.bool true)], args := [d1, d2] }
  | _ => none }
def metaEncodesRow : OpenClaim := { program := "ytlhdbkbgedlmnaadoor", sum := "06261aa6036293a292ce4a31ef303b30d7d759e1fbb74d6d7fba52e81c460aaf", func := "heartwood/heartwoodlaw06.MetaEncodes", spec := "metaEncodes", inPlace := ["internal/bytealg.IndexByteString", "internal/bytealg.IndexString"], unfollowed := true, recurses := true, named := ["unicode/utf8.first", "unicode/utf8.acceptRanges", "internal/bytealg.MaxLen"], apart := false, laid := [("unicode/utf8.acceptRanges", laid_unicode_utf8_acceptRanges), ("unicode/utf8.first", laid_unicode_utf8_first)] }
def MetaEncodesSaid : Prop := metaEncodesRow.holds Tryd.pinned (OpenSpec.ofChange metaEncodesSpec)

/-- ITS FALSE NEIGHBOUR: 'it returns false'. Refute it at one input. -/
def metaEncodesWrong : ChangeSpec := { name := "metaEncodes", fn := fun _ => fun
  | [d1, d2] => { results := [.lit (.bool false)], args := [d1, d2] }
  | _ => none }
def MetaEncodesWrongFalsely : Prop := metaEncodesRow.holds Tryd.pinned (OpenSpec.ofChange metaEncodesWrong)

/-- 'heartwoodlaw06.MetaDecodes': WHATEVER THE INPUT: true; the input reads as it did. -/
def metaDecodesSpec : ChangeSpec := { name := "metaDecodes", fn := fun _ => fun
  | [d1, d2] => { results := [.lit (.bool true)], args := [d1, d2] }
  | _ => none }
def metaDecodesRow : OpenClaim := { program := "ytlhdbkbgedlmnaadoor", sum := "06261aa6036293a292ce4a31ef303b30d7d759e1fbb74d6d7fba52e81c460aaf", func := "heartwood/heartwoodlaw06.MetaDecodes", spec := "metaDecodes", inPlace := ["internal/bytealg.IndexByteString", "internal/bytealg.IndexString"], unfollowed := true, recurses := true, named := ["unicode/utf8.first", "unicode/utf8.acceptRanges", "internal/bytealg.MaxLen"], apart := false, laid := [("unicode/utf8.acceptRanges", laid_unicode_utf8_acceptRanges), ("unicode/utf8.first", laid_unicode_utf8_first)] }
def MetaDecodesSaid : Prop := metaDecodesRow.holds Tryd.pinned (OpenSpec.ofChange metaDecodesSpec)

/-- ITS FALSE NEIGHBOUR: 'it returns false'. Refute it at one input. -/
def metaDecodesWrong : ChangeSpec := { name := "metaDecodes", fn := fun _ => fun
  | [d1, d2] => { results := [.lit (.bool false)], args := [d1, d2] }
  | _ => none }
def MetaDecodesWrongFalsely : Prop := metaDecodesRow.holds Tryd.pinned (OpenSpec.ofChange metaDecodesWrong)

/-- 'heartwoodlaw06.MetaPicks': WHATEVER THE INPUT: true; the input reads as it did. -/
def metaPicksSpec : ChangeSpec := { name := "metaPicks", fn := fun _ => fun
  | [d1, d2, d3] => { results := [.lit (.bool true)], args := [d1, d2, d3] }
  | _ => none }
def metaPicksRow : OpenClaim := { program := "ytlhdbkbgedlmnaadoor", sum := "06261aa6036293a292ce4a31ef303b30d7d759e1fbb74d6d7fba52e81c460aaf", func := "heartwood/heartwoodlaw06.MetaPicks", spec := "metaPicks", inPlace := ["internal/bytealg.IndexByteString", "internal/bytealg.IndexString"], unfollowed := true, recurses := true, named := ["unicode/utf8.first", "unicode/utf8.acceptRanges", "internal/bytealg.MaxLen"], apart := false, laid := [("unicode/utf8.acceptRanges", laid_unicode_utf8_acceptRanges), ("unicode/utf8.first", laid_unicode_utf8_first)] }
def MetaPicksSaid : Prop := metaPicksRow.holds Tryd.pinned (OpenSpec.ofChange metaPicksSpec)

/-- ITS FALSE NEIGHBOUR: 'it returns false'. Refute it at one input. -/
def metaPicksWrong : ChangeSpec := { name := "metaPicks", fn := fun _ => fun
  | [d1, d2, d3] => { results := [.lit (.bool false)], args := [d1, d2, d3] }
  | _ => none }
def MetaPicksWrongFalsely : Prop := metaPicksRow.holds Tryd.pinned (OpenSpec.ofChange metaPicksWrong)

/-- 'heartwoodlaw06.MetaBack': WHATEVER THE INPUT: true; the input reads as it did. -/
def metaBackSpec : ChangeSpec := { name := "metaBack", fn := fun _ => fun
  | [d1, d2] => { results := [.lit (.bool true)], args := [d1, d2] }
  | _ => none }
def metaBackRow : OpenClaim := { program := "ytlhdbkbgedlmnaadoor", sum := "06261aa6036293a292ce4a31ef303b30d7d759e1fbb74d6d7fba52e81c460aaf", func := "heartwood/heartwoodlaw06.MetaBack", spec := "metaBack", inPlace := ["internal/bytealg.IndexByteString", "internal/bytealg.IndexString"], unfollowed := true, recurses := true, named := ["unicode/utf8.first", "unicode/utf8.acceptRanges", "internal/bytealg.MaxLen"], apart := false, laid := [("unicode/utf8.acceptRanges", laid_unicode_utf8_acceptRanges), ("unicode/utf8.first", laid_unicode_utf8_first)] }
def MetaBackSaid : Prop := metaBackRow.holds Tryd.pinned (OpenSpec.ofChange metaBackSpec)

/-- ITS FALSE NEIGHBOUR: 'it returns false'. Refute it at one input. -/
def metaBackWrong : ChangeSpec := { name := "metaBack", fn := fun _ => fun
  | [d1, d2] => { results := [.lit (.bool false)], args := [d1, d2] }
  | _ => none }
def MetaBackWrongFalsely : Prop := metaBackRow.holds Tryd.pinned (OpenSpec.ofChange metaBackWrong)

/-- 'heartwoodlaw06.MetaTurned': WHATEVER THE INPUT: true; the input reads as it did. -/
def metaTurnedSpec : ChangeSpec := { name := "metaTurned", fn := fun _ => fun
  | [d1, d2, d3] => { results := [.lit (.bool true)], args := [d1, d2, d3] }
  | _ => none }
def metaTurnedRow : OpenClaim := { program := "ytlhdbkbgedlmnaadoor", sum := "06261aa6036293a292ce4a31ef303b30d7d759e1fbb74d6d7fba52e81c460aaf", func := "heartwood/heartwoodlaw06.MetaTurned", spec := "metaTurned", inPlace := ["internal/bytealg.IndexByteString", "internal/bytealg.IndexString"], unfollowed := true, recurses := true, named := ["unicode/utf8.first", "unicode/utf8.acceptRanges", "internal/bytealg.MaxLen"], apart := false, laid := [("unicode/utf8.acceptRanges", laid_unicode_utf8_acceptRanges), ("unicode/utf8.first", laid_unicode_utf8_first)] }
def MetaTurnedSaid : Prop := metaTurnedRow.holds Tryd.pinned (OpenSpec.ofChange metaTurnedSpec)

/-- ITS FALSE NEIGHBOUR: 'it returns false'. Refute it at one input. -/
def metaTurnedWrong : ChangeSpec := { name := "metaTurned", fn := fun _ => fun
  | [d1, d2, d3] => { results := [.lit (.bool false)], args := [d1, d2, d3] }
  | _ => none }
def MetaTurnedWrongFalsely : Prop := metaTurnedRow.holds Tryd.pinned (OpenSpec.ofChange metaTurnedWrong)

/-- 'heartwoodlaw06.MetaWhole': WHATEVER THE INPUT: true; the input reads as it did. -/
def metaWholeSpec : ChangeSpec := { name := "metaWhole", fn := fun _ => fun
  | [d1, d2, d3] => { results := [.lit (.bool true)], args := [d1, d2, d3] }
  | _ => none }
def metaWholeRow : OpenClaim := { program := "ytlhdbkbgedlmnaadoor", sum := "06261aa6036293a292ce4a31ef303b30d7d759e1fbb74d6d7fba52e81c460aaf", func := "heartwood/heartwoodlaw06.MetaWhole", spec := "metaWhole", inPlace := ["internal/bytealg.IndexByteString", "internal/bytealg.IndexString"], unfollowed := true, recurses := true, named := ["unicode/utf8.first", "unicode/utf8.acceptRanges", "internal/bytealg.MaxLen"], apart := false, laid := [("unicode/utf8.acceptRanges", laid_unicode_utf8_acceptRanges), ("unicode/utf8.first", laid_unicode_utf8_first)] }
def MetaWholeSaid : Prop := metaWholeRow.holds Tryd.pinned (OpenSpec.ofChange metaWholeSpec)

/-- ITS FALSE NEIGHBOUR: 'it returns false'. Refute it at one input. -/
def metaWholeWrong : ChangeSpec := { name := "metaWhole", fn := fun _ => fun
  | [d1, d2, d3] => { results := [.lit (.bool false)], args := [d1, d2, d3] }
  | _ => none }
def MetaWholeWrongFalsely : Prop := metaWholeRow.holds Tryd.pinned (OpenSpec.ofChange metaWholeWrong)

/-- 'heartwoodlaw06.MetaGoes': WHATEVER THE INPUT: true; the input reads as it did. -/
def metaGoesSpec : ChangeSpec := { name := "metaGoes", fn := fun _ => fun
  | [d1, d2, d3] => { results := [.lit (.bool true)], args := [d1, d2, d3] }
  | _ => none }
def metaGoesRow : OpenClaim := { program := "ytlhdbkbgedlmnaadoor", sum := "06261aa6036293a292ce4a31ef303b30d7d759e1fbb74d6d7fba52e81c460aaf", func := "heartwood/heartwoodlaw06.MetaGoes", spec := "metaGoes", inPlace := ["internal/bytealg.IndexByteString", "internal/bytealg.IndexString"], unfollowed := true, recurses := true, named := ["unicode/utf8.first", "unicode/utf8.acceptRanges", "internal/bytealg.MaxLen"], apart := false, laid := [("unicode/utf8.acceptRanges", laid_unicode_utf8_acceptRanges), ("unicode/utf8.first", laid_unicode_utf8_first)] }
def MetaGoesSaid : Prop := metaGoesRow.holds Tryd.pinned (OpenSpec.ofChange metaGoesSpec)

/-- ITS FALSE NEIGHBOUR: 'it returns false'. Refute it at one input. -/
def metaGoesWrong : ChangeSpec := { name := "metaGoes", fn := fun _ => fun
  | [d1, d2, d3] => { results := [.lit (.bool false)], args := [d1, d2, d3] }
  | _ => none }
def MetaGoesWrongFalsely : Prop := metaGoesRow.holds Tryd.pinned (OpenSpec.ofChange metaGoesWrong)

/-- 'heartwoodlaw06.MetaNames': WHATEVER THE INPUT: true; the input reads as it did. -/
def metaNamesSpec : ChangeSpec := { name := "metaNames", fn := fun _ => fun
  | [] => { results := [.lit (.bool true)], args := [] }
  | _ => none }
def metaNamesRow : OpenClaim := { program := "ytlhdbkbgedlmnaadoor", sum := "06261aa6036293a292ce4a31ef303b30d7d759e1fbb74d6d7fba52e81c460aaf", func := "heartwood/heartwoodlaw06.MetaNames", spec := "metaNames", inPlace := ["internal/bytealg.IndexByteString", "internal/bytealg.IndexString"], unfollowed := true, recurses := true, named := ["unicode/utf8.first", "unicode/utf8.acceptRanges", "internal/bytealg.MaxLen"], apart := false, laid := [("unicode/utf8.acceptRanges", laid_unicode_utf8_acceptRanges), ("unicode/utf8.first", laid_unicode_utf8_first)] }
def MetaNamesSaid : Prop := metaNamesRow.holds Tryd.pinned (OpenSpec.ofChange metaNamesSpec)

/-- ITS FALSE NEIGHBOUR: 'it returns false'. Refute it at one input. -/
def metaNamesWrong : ChangeSpec := { name := "metaNames", fn := fun _ => fun
  | [] => { results := [.lit (.bool false)], args := [] }
  | _ => none }
def MetaNamesWrongFalsely : Prop := metaNamesRow.holds Tryd.pinned (OpenSpec.ofChange metaNamesWrong)

/- THE SECOND FORM. 'bulk': how many values and letters a reading holds, each counted each time it is reached (what is shared counts as often as it is met; a slice's spare places count too). A statement '..UptoSaid' is the law's where the arguments, and the package variables that the reading takes, are together of bulk at most 1048576: NARROWER than '..Said'. Prove '..Said' where nothing that the law and all that it calls make is longer than what came in: it says more and counts as full. Else prove '..UptoSaid'. A law counts once. -/
mutual
def uptoBulk {H : Type} : DataW H → Nat
  | .lit (.string bytes) => bytes.length + 1
  | .lit _ => 1
  | .nil => 1
  | .ptr d => uptoBulk d + 1
  | .slice elems spare => uptoBulkAll elems + uptoBulkAll spare + 1
  | .agg parts => uptoBulkAll parts + 1
  | .iface _ d => uptoBulk d + 1
  | .map entries => uptoBulkEntries entries + 1
  | .held _ => 1
def uptoBulkAll {H : Type} : List (DataW H) → Nat
  | [] => 0
  | d :: r => uptoBulk d + uptoBulkAll r
def uptoBulkEntries {H : Type} : List (Lit × DataW H) → Nat
  | [] => 0
  | x :: r => uptoBulkEntry x + uptoBulkEntries r
def uptoBulkEntry {H : Type} : Lit × DataW H → Nat
  | (.string bytes, d) => bytes.length + uptoBulk d + 1
  | (_, d) => uptoBulk d + 1
 end
def uptoSmall : (H : Type) → List (DataW H) → Bool := fun _ ds => decide (uptoBulkAll ds ≤ 1048576)
def OpenSpec.upto (s : _root_.Go.ChangeSpec) : _root_.Go.OpenSpec := { _root_.Go.OpenSpec.ofChange s with cond := some uptoSmall }

/-- 'heartwoodlaw06.MetaChecks', WHERE WHAT IT READS IS OF BULK AT MOST 1048576: true; the input reads as it did. -/
def metaChecksUptoRow : OpenClaim := { program := "ytlhdbkbgedlmnaadoor", sum := "06261aa6036293a292ce4a31ef303b30d7d759e1fbb74d6d7fba52e81c460aaf", func := "heartwood/heartwoodlaw06.MetaChecks", spec := "metaChecks", inPlace := ["internal/bytealg.IndexByteString", "internal/bytealg.IndexString"], unfollowed := true, recurses := true, named := ["unicode/utf8.first", "unicode/utf8.acceptRanges", "internal/bytealg.MaxLen"], apart := false, laid := [("unicode/utf8.acceptRanges", laid_unicode_utf8_acceptRanges), ("unicode/utf8.first", laid_unicode_utf8_first)], narrowed := true }
def MetaChecksUptoSaid : Prop := metaChecksUptoRow.holds Tryd.pinned (OpenSpec.upto metaChecksSpec)

/-- 'heartwoodlaw06.MetaEncodes', WHERE WHAT IT READS IS OF BULK AT MOST 1048576: true; the input reads as it did. -/
def metaEncodesUptoRow : OpenClaim := { program := "ytlhdbkbgedlmnaadoor", sum := "06261aa6036293a292ce4a31ef303b30d7d759e1fbb74d6d7fba52e81c460aaf", func := "heartwood/heartwoodlaw06.MetaEncodes", spec := "metaEncodes", inPlace := ["internal/bytealg.IndexByteString", "internal/bytealg.IndexString"], unfollowed := true, recurses := true, named := ["unicode/utf8.first", "unicode/utf8.acceptRanges", "internal/bytealg.MaxLen"], apart := false, laid := [("unicode/utf8.acceptRanges", laid_unicode_utf8_acceptRanges), ("unicode/utf8.first", laid_unicode_utf8_first)], narrowed := true }
def MetaEncodesUptoSaid : Prop := metaEncodesUptoRow.holds Tryd.pinned (OpenSpec.upto metaEncodesSpec)

/-- 'heartwoodlaw06.MetaDecodes', WHERE WHAT IT READS IS OF BULK AT MOST 1048576: true; the input reads as it did. -/
def metaDecodesUptoRow : OpenClaim := { program := "ytlhdbkbgedlmnaadoor", sum := "06261aa6036293a292ce4a31ef303b30d7d759e1fbb74d6d7fba52e81c460aaf", func := "heartwood/heartwoodlaw06.MetaDecodes", spec := "metaDecodes", inPlace := ["internal/bytealg.IndexByteString", "internal/bytealg.IndexString"], unfollowed := true, recurses := true, named := ["unicode/utf8.first", "unicode/utf8.acceptRanges", "internal/bytealg.MaxLen"], apart := false, laid := [("unicode/utf8.acceptRanges", laid_unicode_utf8_acceptRanges), ("unicode/utf8.first", laid_unicode_utf8_first)], narrowed := true }
def MetaDecodesUptoSaid : Prop := metaDecodesUptoRow.holds Tryd.pinned (OpenSpec.upto metaDecodesSpec)

/-- 'heartwoodlaw06.MetaPicks', WHERE WHAT IT READS IS OF BULK AT MOST 1048576: true; the input reads as it did. -/
def metaPicksUptoRow : OpenClaim := { program := "ytlhdbkbgedlmnaadoor", sum := "06261aa6036293a292ce4a31ef303b30d7d759e1fbb74d6d7fba52e81c460aaf", func := "heartwood/heartwoodlaw06.MetaPicks", spec := "metaPicks", inPlace := ["internal/bytealg.IndexByteString", "internal/bytealg.IndexString"], unfollowed := true, recurses := true, named := ["unicode/utf8.first", "unicode/utf8.acceptRanges", "internal/bytealg.MaxLen"], apart := false, laid := [("unicode/utf8.acceptRanges", laid_unicode_utf8_acceptRanges), ("unicode/utf8.first", laid_unicode_utf8_first)], narrowed := true }
def MetaPicksUptoSaid : Prop := metaPicksUptoRow.holds Tryd.pinned (OpenSpec.upto metaPicksSpec)

/-- 'heartwoodlaw06.MetaBack', WHERE WHAT IT READS IS OF BULK AT MOST 1048576: true; the input reads as it did. -/
def metaBackUptoRow : OpenClaim := { program := "ytlhdbkbgedlmnaadoor", sum := "06261aa6036293a292ce4a31ef303b30d7d759e1fbb74d6d7fba52e81c460aaf", func := "heartwood/heartwoodlaw06.MetaBack", spec := "metaBack", inPlace := ["internal/bytealg.IndexByteString", "internal/bytealg.IndexString"], unfollowed := true, recurses := true, named := ["unicode/utf8.first", "unicode/utf8.acceptRanges", "internal/bytealg.MaxLen"], apart := false, laid := [("unicode/utf8.acceptRanges", laid_unicode_utf8_acceptRanges), ("unicode/utf8.first", laid_unicode_utf8_first)], narrowed := true }
def MetaBackUptoSaid : Prop := metaBackUptoRow.holds Tryd.pinned (OpenSpec.upto metaBackSpec)

/-- 'heartwoodlaw06.MetaTurned', WHERE WHAT IT READS IS OF BULK AT MOST 1048576: true; the input reads as it did. -/
def metaTurnedUptoRow : OpenClaim := { program := "ytlhdbkbgedlmnaadoor", sum := "06261aa6036293a292ce4a31ef303b30d7d759e1fbb74d6d7fba52e81c460aaf", func := "heartwood/heartwoodlaw06.MetaTurned", spec := "metaTurned", inPlace := ["internal/bytealg.IndexByteString", "internal/bytealg.IndexString"], unfollowed := true, recurses := true, named := ["unicode/utf8.first", "unicode/utf8.acceptRanges", "internal/bytealg.MaxLen"], apart := false, laid := [("unicode/utf8.acceptRanges", laid_unicode_utf8_acceptRanges), ("unicode/utf8.first", laid_unicode_utf8_first)], narrowed := true }
def MetaTurnedUptoSaid : Prop := metaTurnedUptoRow.holds Tryd.pinned (OpenSpec.upto metaTurnedSpec)

/-- 'heartwoodlaw06.MetaWhole', WHERE WHAT IT READS IS OF BULK AT MOST 1048576: true; the input reads as it did. -/
def metaWholeUptoRow : OpenClaim := { program := "ytlhdbkbgedlmnaadoor", sum := "06261aa6036293a292ce4a31ef303b30d7d759e1fbb74d6d7fba52e81c460aaf", func := "heartwood/heartwoodlaw06.MetaWhole", spec := "metaWhole", inPlace := ["internal/bytealg.IndexByteString", "internal/bytealg.IndexString"], unfollowed := true, recurses := true, named := ["unicode/utf8.first", "unicode/utf8.acceptRanges", "internal/bytealg.MaxLen"], apart := false, laid := [("unicode/utf8.acceptRanges", laid_unicode_utf8_acceptRanges), ("unicode/utf8.first", laid_unicode_utf8_first)], narrowed := true }
def MetaWholeUptoSaid : Prop := metaWholeUptoRow.holds Tryd.pinned (OpenSpec.upto metaWholeSpec)

/-- 'heartwoodlaw06.MetaGoes', WHERE WHAT IT READS IS OF BULK AT MOST 1048576: true; the input reads as it did. -/
def metaGoesUptoRow : OpenClaim := { program := "ytlhdbkbgedlmnaadoor", sum := "06261aa6036293a292ce4a31ef303b30d7d759e1fbb74d6d7fba52e81c460aaf", func := "heartwood/heartwoodlaw06.MetaGoes", spec := "metaGoes", inPlace := ["internal/bytealg.IndexByteString", "internal/bytealg.IndexString"], unfollowed := true, recurses := true, named := ["unicode/utf8.first", "unicode/utf8.acceptRanges", "internal/bytealg.MaxLen"], apart := false, laid := [("unicode/utf8.acceptRanges", laid_unicode_utf8_acceptRanges), ("unicode/utf8.first", laid_unicode_utf8_first)], narrowed := true }
def MetaGoesUptoSaid : Prop := metaGoesUptoRow.holds Tryd.pinned (OpenSpec.upto metaGoesSpec)

/-- 'heartwoodlaw06.MetaNames', WHERE WHAT IT READS IS OF BULK AT MOST 1048576: true; the input reads as it did. -/
def metaNamesUptoRow : OpenClaim := { program := "ytlhdbkbgedlmnaadoor", sum := "06261aa6036293a292ce4a31ef303b30d7d759e1fbb74d6d7fba52e81c460aaf", func := "heartwood/heartwoodlaw06.MetaNames", spec := "metaNames", inPlace := ["internal/bytealg.IndexByteString", "internal/bytealg.IndexString"], unfollowed := true, recurses := true, named := ["unicode/utf8.first", "unicode/utf8.acceptRanges", "internal/bytealg.MaxLen"], apart := false, laid := [("unicode/utf8.acceptRanges", laid_unicode_utf8_acceptRanges), ("unicode/utf8.first", laid_unicode_utf8_first)], narrowed := true }
def MetaNamesUptoSaid : Prop := metaNamesUptoRow.holds Tryd.pinned (OpenSpec.upto metaNamesSpec)

end Rows
end Go.Proofs.YtlhdbkbgedlmnaaDoor
