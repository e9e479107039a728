import Derived.Test.YtnkggincckdoiaaDoorKb26
import Derived.Test.YtnkggincckdoiaaDoorKb27
import Derived.Test.YtnkggincckdoiaaDoorKb28
namespace Go.Proofs.YtnkggincckdoiaaDoor.Q
open Go.RowKit
set_option linter.unusedVariables false
theorem blanks_row (W : World) (hG : Gd W) (s : ByteArray) (x : Opr) (h1 : i64 x.v) (h2 : i64 x.w) (h3 : i64 x.e) (hi : x.i.size ≤ 140737488351232) (hf : x.f.size ≤ 140737488351232) (ht : x.t.size ≤ 140737488351232) (hs : s.size ≤ 1048576) :
    Calls Tryd.prog 6 #[.string s, .agg (cellO x).toArray] W fun e W' => e = .returned (.bool true) ∧ Below W.heap.size W W' :=
  quipulaw09_RuleBlanks.calls _ s x.i x.v x.w x.f x.t x.e true W hG (blanks_true s x ⟨h1, h2, h3, by omega, by omega, by omega⟩ hs)
end Go.Proofs.YtnkggincckdoiaaDoor.Q
