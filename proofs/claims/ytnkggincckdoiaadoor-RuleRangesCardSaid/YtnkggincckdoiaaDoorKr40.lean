import Derived.Test.YtnkggincckdoiaaDoorKr1
import Derived.Test.YtnkggincckdoiaaDoorRows
import Derived.Stop.LaidErr
import Derived.LaidSub
import Derived.LaidMore
import Derived.Lib.LaidTab
import Derived.ProofKit
namespace Go.Proofs.YtnkggincckdoiaaDoor.Q
open Go.RowKit Go.ChangeShapes Go.WideShapes Go.ChangeAt
set_option linter.unusedVariables false
set_option linter.unusedSimpArgs false
theorem star : "*" ++ "errors.errorString" = "*errors.errorString" := by decide
theorem row150 (u : TypeId) (h : Tryd.prog.typeName? 3 u = some "*errors.errorString") : u = 150 :=
  typeName_ptr_named (nm := "errors.errorString") (by rw [star]; kernel_rfl) (by kernel_rfl) (by decide) u (by rw [star]; exact h)
theorem err_of {W : World} {n : String} {text : List UInt8} {g : Nat} (hL : laidMet Tryd.prog [(n, .iface "*errors.errorString" (.ptr (.agg [.lit (.string text)])))] W) (hg : Tryd.prog.globalNamed n = some g) (ht : (Tryd.prog.globals[g]?).map (·.type) = some 87) :
    ∃ tp p, W.cell? ⟨g, 0, none⟩ = some (.iface tp p) := by
  obtain ⟨a, s, hv, _, _, _⟩ := laid_sentinel (ti := 87) (tp := 150) (te := 152) (ts := 9) hL hg ht Tryd.underlying87 row150 Tryd.underlying150 Tryd.underlying152 rfl rfl Tryd.underlying9 (by kernel_rfl) (by kernel_rfl)
  have h0 := World.var?_cell hg hv 0
  exact ⟨150, .pointer (some a), by simpa using h0⟩
theorem gd_of {W : World} {l : List (String × DataW Unit)} (hL : laidMet Tryd.prog l W)
    (e1 : l.filter (fun x => x.1 == "internal/strconv.uint64pow10") = [("internal/strconv.uint64pow10", Lib.tabData .u64 Lib.pow10Tab)])
    (e2 : l.filter (fun x => x.1 == "strconv.ErrSyntax") = [("strconv.ErrSyntax", Rows.laid_strconv_ErrSyntax)])
    (e3 : l.filter (fun x => x.1 == "strconv.ErrRange") = [("strconv.ErrRange", Rows.laid_strconv_ErrRange)]) : Gd W := by
  have h1 := hL.filter (fun x => x.1 == "internal/strconv.uint64pow10")
  have h2 := hL.filter (fun x => x.1 == "strconv.ErrSyntax")
  have h3 := hL.filter (fun x => x.1 == "strconv.ErrRange")
  rw [e1] at h1
  rw [e2] at h2
  rw [e3] at h3
  exact ⟨Lib.tabIs_of_head (rest := []) (g := 5) (t := 145) (e := 94) (n := 20) (by kernel_rfl) (by kernel_rfl) Tryd.underlying145 Tryd.underlying94 (by kernel_rfl) (by kernel_rfl) h1, err_of h2 (by kernel_rfl) (by kernel_rfl), err_of h3 (by kernel_rfl) (by kernel_rfl)⟩
end Go.Proofs.YtnkggincckdoiaaDoor.Q
