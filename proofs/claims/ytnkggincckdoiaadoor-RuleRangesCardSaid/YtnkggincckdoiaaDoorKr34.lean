import Derived.Test.YtnkggincckdoiaaDoorKr1
import Derived.Test.YtnkggincckdoiaaDoorKr28
import Derived.Test.YtnkggincckdoiaaDoorKr31
namespace Go.Proofs.YtnkggincckdoiaaDoor.Q
open Go.RowKit Go.Proofs.YtnkggincckdoiaaDoorW.PrintWords Go.Proofs.YtnkggincckdoiaaDoorW.PrintLast Go.Proofs.YtnkggincckdoiaaDoorW.PrintMore
attribute [local go_sem] max2_int min2_int max_two min_two max_three min_three max_four min_four   -- for this text's walks alone
set_option linter.unusedVariables false
set_option linter.unusedSimpArgs false
def quipuref09_PickRange.l0 : Nat → Int → Int → List (S52) → Int → Option (Int × Int)
  | 0, _, _, _, _ => none
  | k + 1, x1, x2, x8, x10 => if x10 < (x8.length : Int) then (if 0 ≤ x10 then (if ((rd_T52 x8 x10).f0) = x1 then (if ((rd_T52 x8 x10).f1) = x2 then (some ((rd_T52 x8 x10).f2, 0)) else (quipuref09_PickRange.l0 k x1 x2 x8 (wrap64 (x10 + 1)))) else (quipuref09_PickRange.l0 k x1 x2 x8 (wrap64 (x10 + 1)))) else (none)) else (some (x2, 0))
def quipuref09_PickRange.f (k : Nat) (a0 : ByteArray) (a1 : Int) (a2 : Int) : Option (Int × Int) := (quipuref09_readRanges.f k a0).bind fun bt274 => (if bt274.2 = 0 then (if a1 < 0 then (some (0, 1)) else (if a1 > 5 then (some (0, 1)) else (if a2 < 0 then (some (0, 1)) else (if a2 > 5 then (some (0, 1)) else (quipuref09_PickRange.l0 k a1 a2 bt274.1 0))))) else (some (0, bt274.2)))
end Go.Proofs.YtnkggincckdoiaaDoor.Q
