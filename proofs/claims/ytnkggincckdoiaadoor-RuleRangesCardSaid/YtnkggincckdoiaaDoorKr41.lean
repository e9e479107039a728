import Derived.Test.YtnkggincckdoiaaDoorKr35
import Derived.Test.YtnkggincckdoiaaDoorKr39
import Derived.Test.YtnkggincckdoiaaDoorKr24
import Derived.Test.YtnkggincckdoiaaDoorKr11
import Derived.SizedLaws
import Derived.ChangeArms
import Derived.OpenShut
import Derived.Test.YtnkggincckdoiaaDoorKr40
namespace Go.Proofs.YtnkggincckdoiaaDoor.Q
open Go.RowKit
set_option linter.unusedVariables false
theorem ranges_true (s : ByteArray) (a b : Int) : quipulaw09_RuleRanges.f 1400000 s a b = some true := by
  unfold quipulaw09_RuleRanges.f rule_PickRange.f rule_CheckRanges.f quipuref09_CheckRanges.f
  rw [pickRange_eq s a b _ (Nat.le_refl _), readRanges_eq s _ (Nat.le_refl _), awake_true]
  obtain ⟨h1, _⟩ := rows_agree s
  simp [h1]
theorem ranges_row (W : World) (hG : Gd W) (s : ByteArray) (a b : Int) (_ : s.size ≤ 140737488351232) :
    Calls Tryd.prog 3 #[.string s, .int .i64 a, .int .i64 b] W fun e W' => e = .returned (.bool true) ∧ Below W.heap.size W W' :=
  quipulaw09_RuleRanges.calls _ s a b true W hG (ranges_true s a b)
end Go.Proofs.YtnkggincckdoiaaDoor.Q
