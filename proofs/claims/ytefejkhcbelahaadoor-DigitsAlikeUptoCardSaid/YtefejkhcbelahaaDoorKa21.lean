import Derived.Test.YtefejkhcbelahaaDoorKa19
import Derived.Test.YtefejkhcbelahaaDoorKa20
import Derived.Test.YtefejkhcbelahaaDoorKa1
import Derived.Test.YtefejkhcbelahaaDoorKa15
import Derived.Test.YtefejkhcbelahaaDoorKa6
import Derived.Test.YtefejkhcbelahaaDoorKa12
import Derived.Test.YtefejkhcbelahaaDoorKa18
import Derived.Test.YtefejkhcbelahaaDoorKa11
import Derived.Test.YtefejkhcbelahaaDoorKa16
namespace Go.Proofs.YtefejkhcbelahaaDoor.Q
open Go.RowKit Go.Proofs.YtefejkhcbelahaaDoorW.PrintWords Go.Proofs.YtefejkhcbelahaaDoorW.PrintLast Go.Proofs.YtefejkhcbelahaaDoorW.PrintMore
set_option linter.unusedVariables false
set_option linter.unusedSimpArgs false
theorem full_data (l : List S34) : fullL l = l.filter fun x => !x.f0.data.toList.isEmpty := by
  unfold fullL emB
  simp only [toList_data]
theorem latin_small : Small (symsOf ⟨#[48]⟩ ⟨#[49]⟩ ⟨#[50]⟩ ⟨#[51]⟩ ⟨#[52]⟩ ⟨#[53]⟩ ⟨#[54]⟩ ⟨#[55]⟩ ⟨#[56]⟩ ⟨#[57]⟩) := by
  intro x hx
  simp only [symsOf, List.mem_cons, List.not_mem_nil, or_false] at hx
  rcases hx with rfl | rfl | rfl | rfl | rfl | rfl | rfl | rfl | rfl | rfl <;> decide
theorem aw_pieces : digits_Pieces.f 0 false (⟨#[49, 50, 51, 52, 53, 54, 55]⟩ : ByteArray) (⟨#[56, 57]⟩ : ByteArray) 0 false (⟨#[48]⟩ : ByteArray) (⟨#[49]⟩ : ByteArray) (⟨#[50]⟩ : ByteArray) (⟨#[51]⟩ : ByteArray) (⟨#[52]⟩ : ByteArray) (⟨#[53]⟩ : ByteArray) (⟨#[54]⟩ : ByteArray) (⟨#[55]⟩ : ByteArray) (⟨#[56]⟩ : ByteArray) (⟨#[57]⟩ : ByteArray) (⟨#[46]⟩ : ByteArray) (⟨#[44]⟩ : ByteArray) (⟨#[45]⟩ : ByteArray) (⟨#[43]⟩ : ByteArray) (⟨#[]⟩ : ByteArray) (⟨#[]⟩ : ByteArray) (⟨#[69]⟩ : ByteArray) (⟨#[105, 110, 102]⟩ : ByteArray) (⟨#[110, 97, 110]⟩ : ByteArray) (⟨#[]⟩ : ByteArray) (⟨#[]⟩ : ByteArray) 3 2 1 false = some [(⟨⟨#[49, 50]⟩, 2⟩ : S34), ⟨⟨#[44]⟩, 3⟩, ⟨⟨#[51, 52]⟩, 2⟩, ⟨⟨#[44]⟩, 3⟩, ⟨⟨#[53, 54, 55]⟩, 2⟩, ⟨⟨#[46]⟩, 4⟩, ⟨⟨#[56, 57]⟩, 5⟩] := by
  rw [code_f _ _ _ _ _ _ _ _ _ _ _ _ _ _ _ _ _ _ _ _ _ _ _ _ _ _ _ _ _ _ _ latin_small (by decide) (by decide) (by decide) (by decide) (by decide) (by decide)]
  unfold piecesL
  simp only [full_data]
  rfl
theorem aw_exp (k : Nat) : digits_Exponent.f (k + 1) (-12) 3 false (⟨#[48]⟩ : ByteArray) (⟨#[49]⟩ : ByteArray) (⟨#[50]⟩ : ByteArray) (⟨#[51]⟩ : ByteArray) (⟨#[52]⟩ : ByteArray) (⟨#[53]⟩ : ByteArray) (⟨#[54]⟩ : ByteArray) (⟨#[55]⟩ : ByteArray) (⟨#[56]⟩ : ByteArray) (⟨#[57]⟩ : ByteArray) (⟨#[46]⟩ : ByteArray) (⟨#[44]⟩ : ByteArray) (⟨#[45]⟩ : ByteArray) (⟨#[43]⟩ : ByteArray) (⟨#[]⟩ : ByteArray) (⟨#[]⟩ : ByteArray) (⟨#[69]⟩ : ByteArray) (⟨#[105, 110, 102]⟩ : ByteArray) (⟨#[110, 97, 110]⟩ : ByteArray) (⟨#[]⟩ : ByteArray) (⟨#[]⟩ : ByteArray) = some [(⟨⟨#[69]⟩, 6⟩ : S34), ⟨⟨#[45]⟩, 7⟩, ⟨⟨#[48, 49, 50]⟩, 8⟩] := by
  rw [exp_f _ _ _ _ _ _ _ _ _ _ _ _ _ _ _ _ _ _ _ _ _ latin_small _ _ _ (by decide) (by decide)]
  have e : tE (-12) 3 = [48, 49, 50] := by
    unfold tE
    rw [show (-12 : Int).natAbs = 12 from rfl, Lib.decDigits_two (by omega) (by omega)]
    rfl
  unfold expL
  rw [e]
  simp only [full_data]
  rfl
theorem awake_p (k : Nat) : quipulaw16_awake.f (k + 1) = some true := by
  simp only [quipulaw16_awake.f, quipulaw16_latin.f, Option.bind_some]
  rw [aw_pieces, Option.bind_some, aw_exp, Option.bind_some]
  simp only [toList_data]
  rfl
theorem pieces_f (c : Int) (n : Bool) (a b : ByteArray) (e : Int) (p : Bool) (s0 s1 s2 s3 s4 s5 s6 s7 s8 s9 s10 s11 s12 s13 s14 s15 s16 s17 s18 s19 s20 : ByteArray) (first further least : Int) (al : Bool) (hD : Small (symsOf s0 s1 s2 s3 s4 s5 s6 s7 s8 s9)) (ha : a.size ≤ 140737488355328) (hb : b.size ≤ 140737488355328) (he : -9223372036854775808 ≤ e ∧ e ≤ 9223372036854775807) (h1 : inI first = true) (h2 : inI further = true) (h3 : inI least = true) :
    quipulaw16_pieces.f c n a b e p s0 s1 s2 s3 s4 s5 s6 s7 s8 s9 s10 s11 s12 s13 s14 s15 s16 s17 s18 s19 s20 first further least al = some (piecesL (symsOf s0 s1 s2 s3 s4 s5 s6 s7 s8 s9) s10 s11 s17 s18 c n a b e first further least al) := by
  unfold quipulaw16_pieces.f
  rw [code_f c n a b e p s0 s1 s2 s3 s4 s5 s6 s7 s8 s9 s10 s11 s12 s13 s14 s15 s16 s17 s18 s19 s20 first further least al hD ha hb he h1 h2 h3]
  rfl
end Go.Proofs.YtefejkhcbelahaaDoor.Q

namespace Go.Proofs.YtefejkhcbelahaaDoor.Q
open Go.RowKit Go.Proofs.YtefejkhcbelahaaDoorW.PrintWords Go.Proofs.YtefejkhcbelahaaDoorW.PrintLast Go.Proofs.YtefejkhcbelahaaDoorW.PrintMore
set_option linter.unusedVariables false
set_option linter.unusedSimpArgs false
theorem sym_latin (u : UInt8) (h1 : 48 ≤ u.toNat) (h2 : u.toNat ≤ 57) : (sym (symsOf ⟨#[48]⟩ ⟨#[49]⟩ ⟨#[50]⟩ ⟨#[51]⟩ ⟨#[52]⟩ ⟨#[53]⟩ ⟨#[54]⟩ ⟨#[55]⟩ ⟨#[56]⟩ ⟨#[57]⟩) u).data.toList = [u] := by
  have key : ∀ j : Fin 10, (sym (symsOf ⟨#[48]⟩ ⟨#[49]⟩ ⟨#[50]⟩ ⟨#[51]⟩ ⟨#[52]⟩ ⟨#[53]⟩ ⟨#[54]⟩ ⟨#[55]⟩ ⟨#[56]⟩ ⟨#[57]⟩) (UInt8.ofNat (48 + j.val))).data.toList = [UInt8.ofNat (48 + j.val)] := by decide +kernel
  have h := key ⟨u.toNat - 48, by omega⟩
  have e : UInt8.ofNat (48 + (u.toNat - 48)) = u := by rw [show 48 + (u.toNat - 48) = u.toNat from by omega, UInt8.ofNat_toNat]
  simp only [e] at h
  exact h
theorem flat_latin : ∀ (l : List UInt8), digB l = true → (writtenL (symsOf ⟨#[48]⟩ ⟨#[49]⟩ ⟨#[50]⟩ ⟨#[51]⟩ ⟨#[52]⟩ ⟨#[53]⟩ ⟨#[54]⟩ ⟨#[55]⟩ ⟨#[56]⟩ ⟨#[57]⟩) l).flatMap (·.data.toList) = l
  | [], _ => rfl
  | u :: l, h => by
    rw [digB_cons, Bool.and_eq_true, Bool.and_eq_true, decide_eq_true_eq, decide_eq_true_eq] at h
    have ih := flat_latin l h.2
    show (sym (symsOf ⟨#[48]⟩ ⟨#[49]⟩ ⟨#[50]⟩ ⟨#[51]⟩ ⟨#[52]⟩ ⟨#[53]⟩ ⟨#[54]⟩ ⟨#[55]⟩ ⟨#[56]⟩ ⟨#[57]⟩) u).data.toList ++ (writtenL (symsOf ⟨#[48]⟩ ⟨#[49]⟩ ⟨#[50]⟩ ⟨#[51]⟩ ⟨#[52]⟩ ⟨#[53]⟩ ⟨#[54]⟩ ⟨#[55]⟩ ⟨#[56]⟩ ⟨#[57]⟩) l).flatMap (·.data.toList) = u :: l
    rw [ih, sym_latin u h.1.1 h.1.2]; rfl
theorem flatS_latin (l : List UInt8) (h : digB l = true) : flatS (writtenL (symsOf ⟨#[48]⟩ ⟨#[49]⟩ ⟨#[50]⟩ ⟨#[51]⟩ ⟨#[52]⟩ ⟨#[53]⟩ ⟨#[54]⟩ ⟨#[55]⟩ ⟨#[56]⟩ ⟨#[57]⟩) l) = mkS l := by unfold flatS; rw [flat_latin l h]
theorem full_cons (x : S34) (l : List S34) : fullL (x :: l) = (if x.f0.size = 0 then [] else [x]) ++ fullL l := by
  unfold fullL
  rw [List.filter_cons]
  by_cases h : x.f0.size = 0
  · have e : emB x = true := by unfold emB; rw [(nil_size _).2 h]; rfl
    rw [e, if_pos h]; rfl
  · have e : emB x = false := by
      unfold emB
      cases hh : x.f0.toList with
      | nil => exact absurd ((nil_size _).1 hh) h
      | cons _ _ => rfl
    rw [e, if_neg h]; rfl
end Go.Proofs.YtefejkhcbelahaaDoor.Q
