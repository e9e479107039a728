import Derived.Test.YtefejkhcbelahaaDoorKs21
import Derived.Test.YtefejkhcbelahaaDoorKs22
import Derived.Test.YtefejkhcbelahaaDoorKs1
import Derived.Test.YtefejkhcbelahaaDoorKs17
import Derived.Test.YtefejkhcbelahaaDoorKs8
import Derived.Test.YtefejkhcbelahaaDoorKs14
import Derived.Test.YtefejkhcbelahaaDoorKs20
import Derived.Test.YtefejkhcbelahaaDoorKs13
import Derived.Test.YtefejkhcbelahaaDoorKs18
import Derived.Test.YtefejkhcbelahaaDoorKs6
namespace Go.Proofs.YtefejkhcbelahaaDoor.Q
open Go.RowKit Go.Proofs.YtefejkhcbelahaaDoorW.PrintWords Go.Proofs.YtefejkhcbelahaaDoorW.PrintLast Go.Proofs.YtefejkhcbelahaaDoorW.PrintMore
set_option linter.unusedVariables false
set_option linter.unusedSimpArgs false
theorem full_data (l : List S34) : fullL l = l.filter fun x => !x.f0.data.toList.isEmpty := by
  unfold fullL emB
  simp only [toList_data]
theorem latin_small : Small (symsOf ⟨#[48]⟩ ⟨#[49]⟩ ⟨#[50]⟩ ⟨#[51]⟩ ⟨#[52]⟩ ⟨#[53]⟩ ⟨#[54]⟩ ⟨#[55]⟩ ⟨#[56]⟩ ⟨#[57]⟩) := by
  intro x hx
  simp only [symsOf, List.mem_cons, List.not_mem_nil, or_false] at hx
  rcases hx with rfl | rfl | rfl | rfl | rfl | rfl | rfl | rfl | rfl | rfl <;> decide
theorem aw_pieces : digits_Pieces.f 0 false (⟨#[49, 50, 51, 52, 53, 54, 55]⟩ : ByteArray) (⟨#[56, 57]⟩ : ByteArray) 0 false (⟨#[48]⟩ : ByteArray) (⟨#[49]⟩ : ByteArray) (⟨#[50]⟩ : ByteArray) (⟨#[51]⟩ : ByteArray) (⟨#[52]⟩ : ByteArray) (⟨#[53]⟩ : ByteArray) (⟨#[54]⟩ : ByteArray) (⟨#[55]⟩ : ByteArray) (⟨#[56]⟩ : ByteArray) (⟨#[57]⟩ : ByteArray) (⟨#[46]⟩ : ByteArray) (⟨#[44]⟩ : ByteArray) (⟨#[45]⟩ : ByteArray) (⟨#[43]⟩ : ByteArray) (⟨#[]⟩ : ByteArray) (⟨#[]⟩ : ByteArray) (⟨#[69]⟩ : ByteArray) (⟨#[105, 110, 102]⟩ : ByteArray) (⟨#[110, 97, 110]⟩ : ByteArray) (⟨#[]⟩ : ByteArray) (⟨#[]⟩ : ByteArray) 3 2 1 false = some [(⟨⟨#[49, 50]⟩, 2⟩ : S34), ⟨⟨#[44]⟩, 3⟩, ⟨⟨#[51, 52]⟩, 2⟩, ⟨⟨#[44]⟩, 3⟩, ⟨⟨#[53, 54, 55]⟩, 2⟩, ⟨⟨#[46]⟩, 4⟩, ⟨⟨#[56, 57]⟩, 5⟩] := by
  rw [code_f _ _ _ _ _ _ _ _ _ _ _ _ _ _ _ _ _ _ _ _ _ _ _ _ _ _ _ _ _ _ _ latin_small (by decide) (by decide) (by decide) (by decide) (by decide) (by decide)]
  unfold piecesL
  simp only [full_data]
  rfl
theorem aw_exp (k : Nat) : digits_Exponent.f (k + 1) (-12) 3 false (⟨#[48]⟩ : ByteArray) (⟨#[49]⟩ : ByteArray) (⟨#[50]⟩ : ByteArray) (⟨#[51]⟩ : ByteArray) (⟨#[52]⟩ : ByteArray) (⟨#[53]⟩ : ByteArray) (⟨#[54]⟩ : ByteArray) (⟨#[55]⟩ : ByteArray) (⟨#[56]⟩ : ByteArray) (⟨#[57]⟩ : ByteArray) (⟨#[46]⟩ : ByteArray) (⟨#[44]⟩ : ByteArray) (⟨#[45]⟩ : ByteArray) (⟨#[43]⟩ : ByteArray) (⟨#[]⟩ : ByteArray) (⟨#[]⟩ : ByteArray) (⟨#[69]⟩ : ByteArray) (⟨#[105, 110, 102]⟩ : ByteArray) (⟨#[110, 97, 110]⟩ : ByteArray) (⟨#[]⟩ : ByteArray) (⟨#[]⟩ : ByteArray) = some [(⟨⟨#[69]⟩, 6⟩ : S34), ⟨⟨#[45]⟩, 7⟩, ⟨⟨#[48, 49, 50]⟩, 8⟩] := by
  rw [exp_f _ _ _ _ _ _ _ _ _ _ _ _ _ _ _ _ _ _ _ _ _ latin_small _ _ _ (by decide) (by decide)]
  have e : tE (-12) 3 = [48, 49, 50] := by
    unfold tE
    rw [show (-12 : Int).natAbs = 12 from rfl, Lib.decDigits_two (by omega) (by omega)]
    rfl
  unfold expL
  rw [e]
  simp only [full_data]
  rfl
theorem awake_p (k : Nat) : quipulaw16_awake.f (k + 1) = some true := by
  simp only [quipulaw16_awake.f, quipulaw16_latin.f, Option.bind_some]
  rw [aw_pieces, Option.bind_some, aw_exp, Option.bind_some]
  simp only [toList_data]
  rfl
theorem pieces_f (c : Int) (n : Bool) (a b : ByteArray) (e : Int) (p : Bool) (s0 s1 s2 s3 s4 s5 s6 s7 s8 s9 s10 s11 s12 s13 s14 s15 s16 s17 s18 s19 s20 : ByteArray) (first further least : Int) (al : Bool) (hD : Small (symsOf s0 s1 s2 s3 s4 s5 s6 s7 s8 s9)) (ha : a.size ≤ 140737488355328) (hb : b.size ≤ 140737488355328) (he : -9223372036854775808 ≤ e ∧ e ≤ 9223372036854775807) (h1 : inI first = true) (h2 : inI further = true) (h3 : inI least = true) :
    quipulaw16_pieces.f c n a b e p s0 s1 s2 s3 s4 s5 s6 s7 s8 s9 s10 s11 s12 s13 s14 s15 s16 s17 s18 s19 s20 first further least al = some (piecesL (symsOf s0 s1 s2 s3 s4 s5 s6 s7 s8 s9) s10 s11 s17 s18 c n a b e first further least al) := by
  unfold quipulaw16_pieces.f
  rw [code_f c n a b e p s0 s1 s2 s3 s4 s5 s6 s7 s8 s9 s10 s11 s12 s13 s14 s15 s16 s17 s18 s19 s20 first further least al hD ha hb he h1 h2 h3]
  rfl
end Go.Proofs.YtefejkhcbelahaaDoor.Q
