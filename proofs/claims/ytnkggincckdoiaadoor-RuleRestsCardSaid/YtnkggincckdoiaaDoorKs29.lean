import Derived.Test.YtnkggincckdoiaaDoorKs28
namespace Go.Proofs.YtnkggincckdoiaaDoor.Q
open Go.RowKit Go.Shelf Go.Proofs.YtnkggincckdoiaaDoorW.PrintWords
set_option linter.unusedVariables false
set_option linter.unusedSimpArgs false
theorem rel_cons (y : Opr) (t : ByteArray) (ts : List ByteArray) : relT y (t :: ts) = match valT y t with
    | none => none
    | some (d, br) =>
      match modT ts with
      | none => none
      | some (m, ts2) =>
        match notT ts2 with
        | none => none
        | some (nt, ts3) =>
          match rangesT (ts3.length + 1) (restB d m) false ts3 with
          | none => none
          | some (b, ts4) => some ((b && !br) != nt, ts4) := rfl
end Go.Proofs.YtnkggincckdoiaaDoor.Q
