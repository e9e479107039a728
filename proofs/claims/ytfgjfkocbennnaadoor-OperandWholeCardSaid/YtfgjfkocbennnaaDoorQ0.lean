-- Written by a program of this session (mkp.py) over the translation.
import Derived.Test.YtfgjfkocbennnaaDoorProg
import Derived.Below
import Derived.Deep.Draws
import Derived.Deep.AppendLies
import Derived.Maps.AppendAt
import Derived.OwnWalk
import Derived.Laws.BytesArg
import Derived.Laws.MakeOwn
import Derived.Laws.OwnMore
import Derived.Deep.OwnRows
import Derived.Tactics
import Derived.Lib.ConvBytes
import Derived.Laws.Slices
import Derived.WalkKit
import Derived.KernelRfl
import Derived.RowKit3
import Derived.Deep.LoopGhost
import Derived.Deep.QuietTactic
import Derived.BigQuiet
import Derived.WideLaws
import Derived.Deep.DeepCutAuto
import Derived.Deep.CutBlock
import Derived.Deep.RegionHeld3
import Derived.Laws.Rows
import Derived.Lib.AppendStr
import Derived.ArgAppend
import Derived.Laws.IdiomCopy
import Derived.OrdersHeld
import Derived.Laws.BitsLemmas
import Derived.RowKit
import Derived.Test.YtfgjfkocbennnaaDoorExt
import Derived.Test.YtfgjfkocbennnaaDoorWWords
import Derived.Test.YtfgjfkocbennnaaDoorWLast
import Derived.Test.YtfgjfkocbennnaaDoorWTab
import Derived.Test.YtfgjfkocbennnaaDoorWFour
import Derived.Test.YtfgjfkocbennnaaDoorWQPut
import Derived.Test.YtfgjfkocbennnaaDoorWApart
import Derived.Test.YtfgjfkocbennnaaDoorWArr
import Derived.Test.YtfgjfkocbennnaaDoorWZeros
import Derived.Test.YtfgjfkocbennnaaDoorWFoot
import Derived.Test.YtfgjfkocbennnaaDoorWKept
import Derived.Test.YtfgjfkocbennnaaDoorWShare
import Derived.Test.YtfgjfkocbennnaaDoorWN
import Derived.Test.YtfgjfkocbennnaaDoorWFootNe
import Derived.Test.YtfgjfkocbennnaaDoorWAt
import Derived.Test.YtfgjfkocbennnaaDoorWEqStruct
import Derived.Test.YtfgjfkocbennnaaDoorWRepsOne
import Derived.Test.YtfgjfkocbennnaaDoorWInv
import Derived.Test.YtfgjfkocbennnaaDoorWInvWords
import Derived.Test.YtfgjfkocbennnaaDoorWGuard
import Derived.Test.YtfgjfkocbennnaaDoorWNEv
import Derived.Test.YtfgjfkocbennnaaDoorWMore
namespace Go.Proofs.YtfgjfkocbennnaaDoor.Q
open Go.RowKit Go.Proofs.YtfgjfkocbennnaaDoorW.PrintWords Go.Proofs.YtfgjfkocbennnaaDoorW.PrintLast Go.Proofs.YtfgjfkocbennnaaDoorW.PrintMore
attribute [local go_sem] max2_int min2_int max_two min_two max_three min_three max_four min_four   -- for this text's walks alone
set_option linter.unusedVariables false
set_option linter.unusedSimpArgs false



def errW : Option Int → Value
  | none => .nilIface
  | some c => .iface 0 (.int .i64 c)
theorem errW_none : errW none = .nilIface := rfl
theorem errW_some (c : Int) : errW (some c) = .iface 0 (.int .i64 c) := rfl

-- the values' own types

end Go.Proofs.YtfgjfkocbennnaaDoor.Q
