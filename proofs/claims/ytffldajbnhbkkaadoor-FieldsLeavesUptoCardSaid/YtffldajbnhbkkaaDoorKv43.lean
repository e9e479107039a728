import Derived.Test.YtffldajbnhbkkaaDoorKv40
import Derived.Test.YtffldajbnhbkkaaDoorKv41
import Derived.Test.YtffldajbnhbkkaaDoorKv42
namespace Go.Proofs.YtffldajbnhbkkaaDoor.Q
open Go.RowKit Go.Proofs.YtffldajbnhbkkaaDoorW.PrintWords Go.Proofs.YtffldajbnhbkkaaDoorW.PrintLast Go.Proofs.YtffldajbnhbkkaaDoorW.PrintMore
set_option linter.unusedVariables false
set_option linter.unusedSimpArgs false
theorem cut_data (s : ByteArray) (n : Nat) : (s.extract 0 n).data.toList = s.data.toList.take n := by
  rw [ByteArray.data_extract, Array.toList_extract]; simp
theorem place_p (s : ByteArray) (n : Int) (hs : s.size < 1000000000) (hv : Lib.validD s.data.toList = true) : quipuref17_place.f s n = some (placeB s n) := by
  unfold quipuref17_place.f
  by_cases h0 : 0 ≤ n
  · rw [if_pos h0]
    by_cases h1 : n ≤ (s.size : Int)
    · have hx : (s.extract 0 n.toNat).size ≤ 9223372036854775807 := by rw [ByteArray.size_extract]; omega
      have hc := cut_valid s.data.toList n.toNat hv (by rw [slenF]; omega)
      rw [if_pos h1, if_pos h0, valid_f _ hx, Option.bind_some, cut_data]
      congr 1
      unfold placeB placeN
      rw [decide_eq_true h0, Bool.true_and]
      by_cases h2 : n.toNat = s.size
      · rw [decide_eq_true h2, Bool.true_or]
        exact hc.2 (fun h => by rw [slenF] at h; omega)
      · have h3 : n.toNat < s.data.size := by have : s.data.size = s.size := rfl; omega
        rw [decide_eq_false h2, Bool.false_or, Array.getElem?_eq_getElem h3]
        show _ = Lib.runeStart (s.data[n.toNat].toNat : Int)
        cases hr : Lib.runeStart (s.data[n.toNat].toNat : Int) with
        | true => exact hc.2 (fun h => by rw [Array.getElem_toList]; exact hr)
        | false =>
          cases ht : Lib.validD (s.data.toList.take n.toNat) with
          | false => rfl
          | true =>
            have := hc.1 ht (by rw [slenF]; omega)
            rw [Array.getElem_toList, hr] at this; cases this
    · rw [if_neg h1]
      congr 1
      cases hp : placeB s n with
      | false => rfl
      | true => exact absurd (placeB_in hp).2 h1
  · rw [if_neg h0]
    congr 1
    cases hp : placeB s n with
    | false => rfl
    | true => exact absurd (placeB_in hp).1 h0
theorem refcross_p (a b : S31) : quipuref17_cross.f a.f0 a.f1 a.f2 b.f0 b.f1 b.f2 = some (cr1 a b || cr1 b a) := by
  unfold quipuref17_cross.f cr1
  by_cases c1 : a.f1 < b.f1
  · have c4 : ¬ b.f1 < a.f1 := by omega
    by_cases c2 : b.f1 < a.f2 <;> by_cases c3 : a.f2 < b.f2 <;> simp [c1, c2, c3, c4]
  · by_cases c4 : b.f1 < a.f1 <;> by_cases c2 : a.f1 < b.f2 <;> by_cases c3 : b.f2 < a.f2 <;> simp [c1, c2, c3, c4]
end Go.Proofs.YtffldajbnhbkkaaDoor.Q
