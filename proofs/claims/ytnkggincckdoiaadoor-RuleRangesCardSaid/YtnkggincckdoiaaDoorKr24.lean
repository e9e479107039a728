import Derived.Test.YtnkggincckdoiaaDoorKr23
namespace Go.Proofs.YtnkggincckdoiaaDoor.Q
open Go.RowKit Go.Shelf Go.Proofs.YtnkggincckdoiaaDoorW.PrintWords Go.Proofs.YtnkggincckdoiaaDoorW.PrintLast Go.Proofs.YtnkggincckdoiaaDoorW.PrintMore
set_option linter.unusedVariables false
set_option linter.unusedSimpArgs false
theorem awake_true : quipulaw09_awake.f = some true := by kernel_rfl
end Go.Proofs.YtnkggincckdoiaaDoor.Q
