import Derived.Test.YtfgjfkocbennnaaDoorL51
namespace Go.Proofs.YtfgjfkocbennnaaDoor.Q
open Go.RowKit Go.Proofs.YtfgjfkocbennnaaDoorW.PrintWords
set_option linter.unusedVariables false
set_option linter.unusedSimpArgs false
theorem fits_of {a b : ByteArray} {e : Int} (ha : a.size ≤ 140737488351232) (hb : b.size ≤ 140737488351232) (he : -9223372036854775808 ≤ e ∧ e ≤ 9223372036854775807) : fits a b e = true := by
  unfold fits
  rw [decide_eq_true (show a.size ≤ 140737488355328 by omega), decide_eq_true (show b.size ≤ 140737488355328 by omega), decide_eq_true he.1, decide_eq_true he.2]; rfl
theorem tells_row (W : World) (c : Int) (n : Bool) (a b : ByteArray) (e : Int) (p : Bool) (he : -9223372036854775808 ≤ e ∧ e ≤ 9223372036854775807) (ha : a.size ≤ 140737488351232) (hb : b.size ≤ 140737488351232) :
    Calls Tryd.prog 3 #[.agg #[.int .i64 c, .bool n, .string a, .string b, .int .i64 e, .bool p]] W fun e' w' => e' = .returned (.bool true) ∧ Below W.heap.size W w' := by
  refine L.quipulaw08_OperandTells.calls c n a b e p true W ?_
  unfold L.quipulaw08_OperandTells.f opOf.f quipuref08_Of.f quipulaw08_awake.f
  rw [if_pos (fits_of ha hb he), if_pos (show a.size ≤ 140737488355328 by omega), if_pos (show b.size ≤ 140737488355328 by omega)]
  simp
end Go.Proofs.YtfgjfkocbennnaaDoor.Q
