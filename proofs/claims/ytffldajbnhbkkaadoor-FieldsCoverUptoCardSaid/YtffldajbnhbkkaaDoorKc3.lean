import Derived.Test.YtffldajbnhbkkaaDoorKc1
import Derived.Test.YtffldajbnhbkkaaDoorKc2
namespace Go.Proofs.YtffldajbnhbkkaaDoor.Q
open Go.RowKit Go.Proofs.YtffldajbnhbkkaaDoorW.PrintWords Go.Proofs.YtffldajbnhbkkaaDoorW.PrintLast Go.Proofs.YtffldajbnhbkkaaDoorW.PrintMore Go.Proofs.YtffldajbnhbkkaaDoor.Opn
set_option linter.unusedVariables false
set_option linter.unusedSimpArgs false
def ok43 (x : S43) : Prop := (x.f0.size ≤ maxLen) ∧ ((Lit.int .i64 x.f1).wf = true)
theorem open43 : Opens Tryd.prog 43 k43 ok43 :=
  Opens.struct Tryd.underlying43 (OpensF.cons (Opens.string (by kernel_rfl)) rfl (by kernel_rfl) (OpensF.one (Opens.int .i64 (by kernel_rfl)) rfl (by kernel_rfl)))
    (by kernel_rfl) (fun x : S43 => (x.f0, x.f1)) (fun p => ⟨p.1, p.2⟩) (fun _ => rfl)
end Go.Proofs.YtffldajbnhbkkaaDoor.Q
