import Derived.Test.YtnkggincckdoiaaDoorKs34
import Derived.Test.YtnkggincckdoiaaDoorKs35
import Derived.Test.YtnkggincckdoiaaDoorKs36
namespace Go.Proofs.YtnkggincckdoiaaDoor.Q
open Go.RowKit
set_option linter.unusedVariables false
theorem rests_row (W : World) (hG : Gd W) (a b : ByteArray) (u : Int) (x : Opr) (h1 : i64 x.v) (h2 : i64 x.w) (h3 : i64 x.e) (hi : x.i.size ≤ 140737488351232) (hf : x.f.size ≤ 140737488351232) (ht : x.t.size ≤ 140737488351232) (ha : a.size ≤ 140737488351232) (hb : b.size ≤ 140737488351232) :
    Calls Tryd.prog 7 #[.string a, .string b, .agg (Value.int .i64 u :: cellO x).toArray] W fun e W' => e = .returned (.bool true) ∧ Below W.heap.size W W' :=
  quipulaw09_RuleRests.calls _ a b u x.i x.v x.w x.f x.t x.e W hG (rests_true a b u x ⟨h1, h2, h3, by omega, by omega, by omega⟩ ha hb)
end Go.Proofs.YtnkggincckdoiaaDoor.Q
