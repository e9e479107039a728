import Derived.Test.YtnkggincckdoiaaDoorKo28
import Derived.Test.YtnkggincckdoiaaDoorKo29
import Derived.Test.YtnkggincckdoiaaDoorKo30
namespace Go.Proofs.YtnkggincckdoiaaDoor.Q
open Go.RowKit
set_option linter.unusedVariables false
theorem order_row (W : World) (hG : Gd W) (s c : ByteArray) (x : Opr) (h1 : i64 x.v) (h2 : i64 x.w) (h3 : i64 x.e) (hi : x.i.size ≤ 140737488351232) (hf : x.f.size ≤ 140737488351232) (ht : x.t.size ≤ 140737488351232) (hs : s.size ≤ 140737488351232) (hc : c.size ≤ 140737488351232) :
    Calls Tryd.prog 5 #[.string s, .string c, .agg (cellO x).toArray] W fun e W' => e = .returned (.bool true) ∧ Below W.heap.size W W' :=
  quipulaw09_RuleOrder.calls _ s c x.i x.v x.w x.f x.t x.e true W hG (order_true s c x ⟨h1, h2, h3, by omega, by omega, by omega⟩ (by omega) (by omega))
end Go.Proofs.YtnkggincckdoiaaDoor.Q
