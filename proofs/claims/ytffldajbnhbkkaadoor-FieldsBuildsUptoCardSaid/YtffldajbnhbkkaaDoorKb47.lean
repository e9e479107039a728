import Derived.Test.YtffldajbnhbkkaaDoorKb46
namespace Go.Proofs.YtffldajbnhbkkaaDoor.Q
open Go.RowKit Go.Proofs.YtffldajbnhbkkaaDoorW.PrintWords Go.Proofs.YtffldajbnhbkkaaDoorW.PrintLast Go.Proofs.YtffldajbnhbkkaaDoorW.PrintMore
set_option linter.unusedVariables false
set_option linter.unusedSimpArgs false
theorem builds_row (W : World) (hG : Gd W) (A : Option Addr) (c : Nat) (l : List S43) (hC : Kd.C k43 W A l.length l) (hc : l.length ≤ c) (hb : (textP l).length + 3 * l.length ≤ 1048576) :
    Calls Tryd.prog 3 #[.slice A l.length c] W fun e w' => e = .returned (.bool true) ∧ Below W.heap.size W w' := by
  obtain ⟨k, hk⟩ := builds_true l (by omega) (by omega)
  exact quipulaw17_FieldsBuilds.calls k A c l true W hG hC hc hk
end Go.Proofs.YtffldajbnhbkkaaDoor.Q
