import Derived.Test.YtnkggincckdoiaaDoorKr10
import Derived.Test.YtnkggincckdoiaaDoorKr24
import Derived.Test.YtnkggincckdoiaaDoorKr22
import Derived.Test.YtnkggincckdoiaaDoorKr1
import Derived.Test.YtnkggincckdoiaaDoorKr23
namespace Go.Proofs.YtnkggincckdoiaaDoor.Q
open Go.RowKit Go.Shelf Go.Proofs.YtnkggincckdoiaaDoorW.PrintWords
set_option linter.unusedVariables false
set_option linter.unusedSimpArgs false
theorem tok_blank (x : List UInt8) : tokL (32 :: x) = tokL x := by
  have := tok_app [32] x (Or.inr (Or.inl rfl))
  rw [show tokL [32] = some [] by kernel_rfl] at this
  rw [List.singleton_append] at this
  rw [this]
  cases tokL x <;> rfl
structure BInv (T W : List UInt8) (i : Nat) : Prop where
  tok : tokL (W ++ T.drop i) = tokL T
  len : W.length ≤ 2 * i + 1
  lows : i ≤ W.length
  last : 0 < i → W.getLast? = T[i - 1]?
  first : i = 0 → W = [32]
theorem BInv.keep {T W : List UInt8} {i : Nat} (h : BInv T W i) (hi : i < T.length) : BInv T (W ++ [T[i]]) (i + 1) := by
  refine ⟨?_, by have := h.len; simp; omega, by have := h.lows; simp; omega, fun _ => by simp [List.getElem?_eq_getElem hi], fun h0 => by omega⟩
  rw [List.append_assoc, List.singleton_append, ← List.drop_eq_getElem_cons hi]
  exact h.tok
end Go.Proofs.YtnkggincckdoiaaDoor.Q
