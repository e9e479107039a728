import Derived.Test.YtnkggincckdoiaaDoorKr1
import Derived.Test.YtnkggincckdoiaaDoorKr28
import Derived.Test.YtnkggincckdoiaaDoorKr26
import Derived.Test.YtnkggincckdoiaaDoorKr29
import Derived.Test.YtnkggincckdoiaaDoorKr30
namespace Go.Proofs.YtnkggincckdoiaaDoor.Q
open Go.RowKit Go.Proofs.YtnkggincckdoiaaDoorW.PrintWords Go.Proofs.YtnkggincckdoiaaDoorW.PrintLast Go.Proofs.YtnkggincckdoiaaDoorW.PrintMore
attribute [local go_sem] max2_int min2_int max_two min_two max_three min_three max_four min_four   -- for this text's walks alone
set_option linter.unusedVariables false
set_option linter.unusedSimpArgs false
mutual
def quipuref09_readRanges.l0 : Nat → List (S52) → List (List ByteArray) → Int → Option ((List (S52)) × Int)
  | 0, _, _, _ => none
  | k + 1, x6, x7, x8 => if x8 < (x7.length : Int) then (if 0 ≤ x8 then (if ((rd_L1 x7 x8).length : Int) = 5 then (if 1 < ((rd_L1 x7 x8).length : Int) then (if (rdOf ByteArray.empty (rd_L1 x7 x8) 1).toList = ([43] : List UInt8) then (if 3 < ((rd_L1 x7 x8).length : Int) then (if (rdOf ByteArray.empty (rd_L1 x7 x8) 3).toList = ([58] : List UInt8) then (if 0 < ((rd_L1 x7 x8).length : Int) then ((quipuref09_Category.f k (rdOf ByteArray.empty (rd_L1 x7 x8) 0)).bind fun t263 => (if 2 < ((rd_L1 x7 x8).length : Int) then ((quipuref09_Category.f k (rdOf ByteArray.empty (rd_L1 x7 x8) 2)).bind fun t265 => (if 4 < ((rd_L1 x7 x8).length : Int) then ((quipuref09_Category.f k (rdOf ByteArray.empty (rd_L1 x7 x8) 4)).bind fun t267 => (if t263 < 0 then (some (([] : List (S52)), 90)) else (if t265 < 0 then (some (([] : List (S52)), 90)) else (if t267 < 0 then (some (([] : List (S52)), 90)) else (quipuref09_readRanges.l1 k x6 x7 x8 0 t263 t265 t267))))) else (none))) else (none))) else (none)) else (some (([] : List (S52)), 90))) else (none)) else (some (([] : List (S52)), 90))) else (none)) else (some (([] : List (S52)), 90))) else (none)) else (some (x6, 0))
def quipuref09_readRanges.l1 : Nat → List (S52) → List (List ByteArray) → Int → Int → Int → Int → Int → Option ((List (S52)) × Int)
  | 0, _, _, _, _, _, _, _ => none
  | k + 1, x6, x7, x8, x11, x269000, x269001, x269002 => if x11 < (x6.length : Int) then (if 0 ≤ x11 then (if ((rd_T52 x6 x11).f0) = x269000 then (if ((rd_T52 x6 x11).f1) = x269001 then (some (([] : List (S52)), 90)) else (quipuref09_readRanges.l1 k x6 x7 x8 (wrap64 (x11 + 1)) x269000 x269001 x269002)) else (quipuref09_readRanges.l1 k x6 x7 x8 (wrap64 (x11 + 1)) x269000 x269001 x269002)) else (none)) else (if x6.length < 5864062014805 then (quipuref09_readRanges.l0 k (x6 ++ [(⟨x269000, x269001, x269002⟩ : S52)]) x7 (wrap64 (x8 + 1))) else (none))
end
def quipuref09_readRanges.f (k : Nat) (a0 : ByteArray) : Option ((List (S52)) × Int) := if (a0.size : Int) > 1024 then (some (([] : List (S52)), 91)) else ((quipuref09_parts.f k a0).bind fun bt249 => (if bt249.2 = true then ((some (([] : List (S52)) : List (S52))).bind fun y253 => (if (bt249.1.length : Int) = 0 then (some (y253, 0)) else ((quipuref09_split.f k bt249.1 (⟨#[59]⟩ : ByteArray)).bind fun t256 => (quipuref09_readRanges.l0 k y253 t256 0)))) else (some (([] : List (S52)), 90))))
end Go.Proofs.YtnkggincckdoiaaDoor.Q
