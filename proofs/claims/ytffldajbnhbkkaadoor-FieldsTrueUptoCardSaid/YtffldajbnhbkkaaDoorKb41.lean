import Derived.Test.YtffldajbnhbkkaaDoorKb34
import Derived.Test.YtffldajbnhbkkaaDoorKb40
namespace Go.Proofs.YtffldajbnhbkkaaDoor.Q
open Go.RowKit Go.Proofs.YtffldajbnhbkkaaDoorW.PrintWords Go.Proofs.YtffldajbnhbkkaaDoorW.PrintLast Go.Proofs.YtffldajbnhbkkaaDoorW.PrintMore
set_option linter.unusedVariables false
set_option linter.unusedSimpArgs false
def fields_Build.f (l0 : List S43) : Option (ByteArray × List S31 × Int) := if l0.length ≤ 400000 ∧ (textP l0).length ≤ 2000000 then some (buildR l0) else none
theorem fields_Build.calls (A0 : Option Addr) (c0 : Nat) (l0 : List (S43)) (r1 : ByteArray) (r2 : List (S31)) (r3 : Int) (w : World) (hG : Gd w) (hr0 : Kd.C k43 w A0 l0.length l0) (hc0 : l0.length ≤ c0) (h : fields_Build.f l0 = some (r1, r2, r3)) :
    Calls Tryd.prog 8 #[.slice A0 l0.length c0] w fun e w' => ∃ v1_ : Value, e = .returned (.tuple #[.agg #[.string r1, v1_], .int .i64 r3]) ∧ Kd.R k31 31 w' w.heap.size (fun _ => True) v1_ r2 ∧ Below w.heap.size w w' := by
  unfold fields_Build.f at h
  by_cases c : l0.length ≤ 400000 ∧ (textP l0).length ≤ 2000000
  · rw [if_pos c] at h
    have e := Option.some.inj h
    have := build_walk A0 c0 l0 w hG hr0 hc0 c.1 c.2
    unfold BuildPost at this
    rw [e] at this
    exact this
  · rw [if_neg c] at h; cases h
end Go.Proofs.YtffldajbnhbkkaaDoor.Q
