/-
  pack.Reader.Free: what it reads.
-/
import Derived.Test.YtlhdbkbgedlmnaaDoorRd
namespace Go.Proofs.YtlhdbkbgedlmnaaDoor
open Go.RowKit
set_option linter.unusedVariables false

end Go.Proofs.YtlhdbkbgedlmnaaDoor
