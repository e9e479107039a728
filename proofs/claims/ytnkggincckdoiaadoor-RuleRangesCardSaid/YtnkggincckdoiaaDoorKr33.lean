import Derived.Test.YtnkggincckdoiaaDoorKr17
namespace Go.Proofs.YtnkggincckdoiaaDoor.Q
open Go.RowKit Go.Shelf
set_option linter.unusedVariables false
set_option linter.unusedSimpArgs false
/-- What may stand behind a relation. -/
structure RelOK (r : List ByteArray) : Prop where
  p : r.head? ≠ some sPct
  n : r.head? ≠ some sNe
  e : r.head? ≠ some sEq
  d : r.head? ≠ some sDd
  c : r.head? ≠ some sCom
end Go.Proofs.YtnkggincckdoiaaDoor.Q
