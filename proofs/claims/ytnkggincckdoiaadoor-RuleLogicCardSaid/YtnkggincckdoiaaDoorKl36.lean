import Derived.Test.YtnkggincckdoiaaDoorKl33
import Derived.Test.YtnkggincckdoiaaDoorKl34
import Derived.Test.YtnkggincckdoiaaDoorKl35
namespace Go.Proofs.YtnkggincckdoiaaDoor.Q
open Go.RowKit
set_option linter.unusedVariables false
theorem logic_row (W : World) (hG : Gd W) (a b c : ByteArray) (x : Opr) (h1 : i64 x.v) (h2 : i64 x.w) (h3 : i64 x.e) (hi : x.i.size ≤ 140737488351232) (hf : x.f.size ≤ 140737488351232) (ht : x.t.size ≤ 140737488351232) (ha : a.size ≤ 140737488351232) (hb : b.size ≤ 140737488351232) (hc : c.size ≤ 140737488351232) :
    Calls Tryd.prog 4 #[.string a, .string b, .agg (Value.string c :: cellO x).toArray] W fun e W' => e = .returned (.bool true) ∧ Below W.heap.size W W' :=
  quipulaw09_RuleLogic.calls _ a b c x.i x.v x.w x.f x.t x.e W hG (logic_true a b c x ⟨h1, h2, h3, by omega, by omega, by omega⟩ ha hb hc)
end Go.Proofs.YtnkggincckdoiaaDoor.Q
