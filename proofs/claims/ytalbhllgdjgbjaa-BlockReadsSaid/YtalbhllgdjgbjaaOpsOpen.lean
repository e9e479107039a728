import Derived.Test.YtalbhllgdjgbjaaOps
import Derived.Test.YtalbhllgdjgbjaaOpen
import Derived.OpenShut
namespace Go.Proofs.Ytalbhllgdjgbjaa.Q
open Go.RowKit Go.Proofs.YtalbhllgdjgbjaaW.PrintWords Go.Proofs.YtalbhllgdjgbjaaW.PrintLast Go.Proofs.YtalbhllgdjgbjaaW.PrintMore Go.Proofs.Ytalbhllgdjgbjaa.Opn
set_option linter.unusedVariables false
set_option linter.unusedSimpArgs false

def wf64 (n : Int) : Prop := (Lit.int .i64 n).wf = true
theorem wf64_ge {n : Int} (h : wf64 n) : -9223372036854775808 ≤ n := (bounds_i64 h).1
theorem open40 : Opens Try.prog 40 k40 (fun x => wf64 x.f0 ∧ wf64 x.f1 ∧ wf64 x.f2 ∧ wf64 x.f3) :=
  Opens.struct Try.underlying40 (OpensF.cons (Opens.int .i64 (by kernel_rfl)) rfl (by kernel_rfl) (OpensF.cons (Opens.int .i64 (by kernel_rfl)) rfl (by kernel_rfl) (OpensF.cons (Opens.int .i64 (by kernel_rfl)) rfl (by kernel_rfl) (OpensF.one (Opens.int .i64 (by kernel_rfl)) rfl (by kernel_rfl)))))
    (by kernel_rfl) (fun x : S40 => (x.f0, x.f1, x.f2, x.f3)) (fun p => ⟨p.1, p.2.1, p.2.2.1, p.2.2.2⟩) (fun _ => rfl)
theorem open43 : Opens Try.prog 43 k43 (fun x => wf64 x.f0 ∧ wf64 x.f1) :=
  Opens.struct Try.underlying43 (OpensF.cons (Opens.int .i64 (by kernel_rfl)) rfl (by kernel_rfl) (OpensF.one (Opens.int .i64 (by kernel_rfl)) rfl (by kernel_rfl)))
    (by kernel_rfl) (fun x : S43 => (x.f0, x.f1)) (fun p => ⟨p.1, p.2⟩) (fun _ => rfl)
theorem ops_wf {os : List S43} (h : ∀ y ∈ os, wf64 y.f0 ∧ wf64 y.f1) (k : Nat) (hk : k < os.length) : -9223372036854775808 ≤ (rd_T43 os (k : Int)).f1 := by
  have e : rd_T43 os (k : Int) = os[k] := by simp [rd_T43, List.getD_eq_getElem?_getD, List.getElem?_eq_getElem hk]
  rw [e]
  exact wf64_ge (h _ (List.getElem_mem hk)).2
end Go.Proofs.Ytalbhllgdjgbjaa.Q
