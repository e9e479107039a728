import Derived.Test.YtffldajbnhbkkaaDoorKc38
import Derived.Test.YtffldajbnhbkkaaDoorKc37
import Derived.Test.YtffldajbnhbkkaaDoorKc4
import Derived.Test.YtffldajbnhbkkaaDoorKc2
import Derived.Test.YtffldajbnhbkkaaDoorKc8
namespace Go.Proofs.YtffldajbnhbkkaaDoor.Q
open Go.RowKit Go.Proofs.YtffldajbnhbkkaaDoorW.PrintWords Go.Proofs.YtffldajbnhbkkaaDoorW.PrintLast Go.Proofs.YtffldajbnhbkkaaDoorW.PrintMore
set_option linter.unusedVariables false
set_option linter.unusedSimpArgs false
theorem build_eq (l : List S43) : buildR l = refR l [] [] none := by
  unfold buildR refR
  rw [heap_evs, List.nil_append]; rfl
theorem puts_len (xs : List S31) : ∀ sp : List S31, (putsL sp xs).length = sp.length + xs.length := by
  induction xs with
  | nil => intro sp; rfl
  | cons x xs ih => intro sp; rw [puts_cons, ih, put_len, List.length_cons]; omega
theorem build_spans_len (l : List S43) : (buildR l).2.1.length ≤ 2 * l.length + 1 := by
  rw [build_eq]
  unfold refR
  split
  · show (putsL [] (evs l _ none)).length ≤ _
    rw [puts_len, List.length_nil]
    have := evs_len l (List.length ([] : List UInt8)) none
    omega
  · exact Nat.zero_le _
end Go.Proofs.YtffldajbnhbkkaaDoor.Q
