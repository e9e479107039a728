import Derived.Test.YtnkggincckdoiaaDoorKs27
import Derived.Test.YtnkggincckdoiaaDoorKs1
namespace Go.Proofs.YtnkggincckdoiaaDoor.Q
open Go.RowKit Go.Shelf Go.Proofs.YtnkggincckdoiaaDoorW.PrintWords
set_option linter.unusedVariables false
set_option linter.unusedSimpArgs false
def one (c : ByteArray) : ByteArray := (⟨#[111, 110, 101, 58, 32]⟩ : ByteArray) ++ c
theorem one_of {c : ByteArray} {y : Opr} {l : List (List UInt8)} {hh : Bool} (hl : tokL c.data.toList = some l) (hc : condT y (l.map mkS) = some (hh, [])) (hs : c.size ≤ 1019) : pickR (one c) y = (if hh = true then 1 else 5, 0) := by
  have h5 : (one c).size = 5 + c.size := by unfold one; rw [ByteArray.size_append]; rfl
  have ht : toks ((one c).size + 1) (one c) = some (wOne :: sCol :: l.map mkS) := by
    unfold one
    rw [toks_L, app_data, toks_one, hl]
    rfl
  unfold pickR
  rw [if_neg (by omega), ht]
  simp only []
  rw [pickL, if_neg (by simp), pickT, cat_one]
  simp only []
  rw [show takeT sCol (sCol :: l.map mkS) = (true, l.map mkS) from if_pos rfl]
  rw [if_pos ⟨by decide, by rfl, rfl⟩, hc]
  simp only []
  rw [if_neg (by rw [take_not (by simp)]; decide)]
  cases hh <;> rfl
theorem take_hd (p : ByteArray) (ts : List ByteArray) : takeT p (p :: ts) = (true, ts) := if_pos rfl
variable {y : Opr} {ta tb tc : List ByteArray} {pa pb pc : Bool}
end Go.Proofs.YtnkggincckdoiaaDoor.Q
