import Derived.Test.YtefejkhcbelahaaDoorKp25
import Derived.Test.YtefejkhcbelahaaDoorKp26
import Derived.Test.YtefejkhcbelahaaDoorKp1
import Derived.Test.YtefejkhcbelahaaDoorKp21
import Derived.Test.YtefejkhcbelahaaDoorKp8
import Derived.Test.YtefejkhcbelahaaDoorKp18
import Derived.Test.YtefejkhcbelahaaDoorKp24
import Derived.Test.YtefejkhcbelahaaDoorKp13
import Derived.Test.YtefejkhcbelahaaDoorKp14
import Derived.Test.YtefejkhcbelahaaDoorKp27
namespace Go.Proofs.YtefejkhcbelahaaDoor.Q
open Go.RowKit Go.Proofs.YtefejkhcbelahaaDoorW.PrintWords Go.Proofs.YtefejkhcbelahaaDoorW.PrintLast Go.Proofs.YtefejkhcbelahaaDoorW.PrintMore
set_option linter.unusedVariables false
set_option linter.unusedSimpArgs false
theorem full_data (l : List S34) : fullL l = l.filter fun x => !x.f0.data.toList.isEmpty := by
  unfold fullL emB
  simp only [toList_data]
theorem latin_small : Small (symsOf ⟨#[48]⟩ ⟨#[49]⟩ ⟨#[50]⟩ ⟨#[51]⟩ ⟨#[52]⟩ ⟨#[53]⟩ ⟨#[54]⟩ ⟨#[55]⟩ ⟨#[56]⟩ ⟨#[57]⟩) := by
  intro x hx
  simp only [symsOf, List.mem_cons, List.not_mem_nil, or_false] at hx
  rcases hx with rfl | rfl | rfl | rfl | rfl | rfl | rfl | rfl | rfl | rfl <;> decide
theorem aw_pieces : digits_Pieces.f 0 false (⟨#[49, 50, 51, 52, 53, 54, 55]⟩ : ByteArray) (⟨#[56, 57]⟩ : ByteArray) 0 false (⟨#[48]⟩ : ByteArray) (⟨#[49]⟩ : ByteArray) (⟨#[50]⟩ : ByteArray) (⟨#[51]⟩ : ByteArray) (⟨#[52]⟩ : ByteArray) (⟨#[53]⟩ : ByteArray) (⟨#[54]⟩ : ByteArray) (⟨#[55]⟩ : ByteArray) (⟨#[56]⟩ : ByteArray) (⟨#[57]⟩ : ByteArray) (⟨#[46]⟩ : ByteArray) (⟨#[44]⟩ : ByteArray) (⟨#[45]⟩ : ByteArray) (⟨#[43]⟩ : ByteArray) (⟨#[]⟩ : ByteArray) (⟨#[]⟩ : ByteArray) (⟨#[69]⟩ : ByteArray) (⟨#[105, 110, 102]⟩ : ByteArray) (⟨#[110, 97, 110]⟩ : ByteArray) (⟨#[]⟩ : ByteArray) (⟨#[]⟩ : ByteArray) 3 2 1 false = some [(⟨⟨#[49, 50]⟩, 2⟩ : S34), ⟨⟨#[44]⟩, 3⟩, ⟨⟨#[51, 52]⟩, 2⟩, ⟨⟨#[44]⟩, 3⟩, ⟨⟨#[53, 54, 55]⟩, 2⟩, ⟨⟨#[46]⟩, 4⟩, ⟨⟨#[56, 57]⟩, 5⟩] := by
  rw [code_f _ _ _ _ _ _ _ _ _ _ _ _ _ _ _ _ _ _ _ _ _ _ _ _ _ _ _ _ _ _ _ latin_small (by decide) (by decide) (by decide) (by decide) (by decide) (by decide)]
  unfold piecesL
  simp only [full_data]
  rfl
theorem aw_exp (k : Nat) : digits_Exponent.f (k + 1) (-12) 3 false (⟨#[48]⟩ : ByteArray) (⟨#[49]⟩ : ByteArray) (⟨#[50]⟩ : ByteArray) (⟨#[51]⟩ : ByteArray) (⟨#[52]⟩ : ByteArray) (⟨#[53]⟩ : ByteArray) (⟨#[54]⟩ : ByteArray) (⟨#[55]⟩ : ByteArray) (⟨#[56]⟩ : ByteArray) (⟨#[57]⟩ : ByteArray) (⟨#[46]⟩ : ByteArray) (⟨#[44]⟩ : ByteArray) (⟨#[45]⟩ : ByteArray) (⟨#[43]⟩ : ByteArray) (⟨#[]⟩ : ByteArray) (⟨#[]⟩ : ByteArray) (⟨#[69]⟩ : ByteArray) (⟨#[105, 110, 102]⟩ : ByteArray) (⟨#[110, 97, 110]⟩ : ByteArray) (⟨#[]⟩ : ByteArray) (⟨#[]⟩ : ByteArray) = some [(⟨⟨#[69]⟩, 6⟩ : S34), ⟨⟨#[45]⟩, 7⟩, ⟨⟨#[48, 49, 50]⟩, 8⟩] := by
  rw [exp_f _ _ _ _ _ _ _ _ _ _ _ _ _ _ _ _ _ _ _ _ _ latin_small _ _ _ (by decide) (by decide)]
  have e : tE (-12) 3 = [48, 49, 50] := by
    unfold tE
    rw [show (-12 : Int).natAbs = 12 from rfl, Lib.decDigits_two (by omega) (by omega)]
    rfl
  unfold expL
  rw [e]
  simp only [full_data]
  rfl
theorem awake_p (k : Nat) : quipulaw16_awake.f (k + 1) = some true := by
  simp only [quipulaw16_awake.f, quipulaw16_latin.f, Option.bind_some]
  rw [aw_pieces, Option.bind_some, aw_exp, Option.bind_some]
  simp only [toList_data]
  rfl
theorem pieces_f (c : Int) (n : Bool) (a b : ByteArray) (e : Int) (p : Bool) (s0 s1 s2 s3 s4 s5 s6 s7 s8 s9 s10 s11 s12 s13 s14 s15 s16 s17 s18 s19 s20 : ByteArray) (first further least : Int) (al : Bool) (hD : Small (symsOf s0 s1 s2 s3 s4 s5 s6 s7 s8 s9)) (ha : a.size ≤ 140737488355328) (hb : b.size ≤ 140737488355328) (he : -9223372036854775808 ≤ e ∧ e ≤ 9223372036854775807) (h1 : inI first = true) (h2 : inI further = true) (h3 : inI least = true) :
    quipulaw16_pieces.f c n a b e p s0 s1 s2 s3 s4 s5 s6 s7 s8 s9 s10 s11 s12 s13 s14 s15 s16 s17 s18 s19 s20 first further least al = some (piecesL (symsOf s0 s1 s2 s3 s4 s5 s6 s7 s8 s9) s10 s11 s17 s18 c n a b e first further least al) := by
  unfold quipulaw16_pieces.f
  rw [code_f c n a b e p s0 s1 s2 s3 s4 s5 s6 s7 s8 s9 s10 s11 s12 s13 s14 s15 s16 s17 s18 s19 s20 first further least al hD ha hb he h1 h2 h3]
  rfl
theorem law_l1 (c : Int) (n : Bool) (a b : ByteArray) (e : Int) (p : Bool) (s0 s1 s2 s3 s4 s5 s6 s7 s8 s9 s10 s11 s12 s13 s14 s15 s16 s17 s18 s19 s20 : ByteArray) (first further least : Int) (al : Bool) (x7 : Int) (r : Bool) (H : Ev (fun k => quipulaw16_DigitsPieces.l0 k (wrap64 (x7 + 1)) c n a b e p s0 s1 s2 s3 s4 s5 s6 s7 s8 s9 s10 s11 s12 s13 s14 s15 s16 s17 s18 s19 s20 first further least al) r) : ∀ (d i : Nat) (l : List S34), l.length ≤ 1000000 → l.length - i = d → i ≤ l.length →
    Ev (fun k => quipulaw16_DigitsPieces.l1 k x7 l (i : Int) c n a b e p s0 s1 s2 s3 s4 s5 s6 s7 s8 s9 s10 s11 s12 s13 s14 s15 s16 s17 s18 s19 s20 first further least al) r := by
  intro d
  induction d with
  | zero =>
    intro i l hl hd hi
    refine Ev.step H 1 (fun k => ?_)
    simp only [quipulaw16_DigitsPieces.l1]
    rw [if_neg (by omega), if_pos (by omega)]
  | succ d ih =>
    intro i l hl hd hi
    refine Ev.step (ih (i + 1) (l.set i (⟨(⟨#[115, 112, 111, 105, 108, 116]⟩ : ByteArray), 0⟩ : S34)) (by rw [List.length_set]; exact hl) (by rw [List.length_set]; omega) (by rw [List.length_set]; omega)) 1 (fun k => ?_)
    simp only [quipulaw16_DigitsPieces.l1]
    rw [if_pos (by omega), if_pos (by omega), Int.toNat_natCast, wrapS i 10000000 (by omega) (by omega)]
theorem law_turn (c : Int) (n : Bool) (a b : ByteArray) (e : Int) (p : Bool) (s0 s1 s2 s3 s4 s5 s6 s7 s8 s9 s10 s11 s12 s13 s14 s15 s16 s17 s18 s19 s20 : ByteArray) (first further least : Int) (al : Bool) (x7 : Int) (h7 : x7 < 2) (hD : Small (symsOf s0 s1 s2 s3 s4 s5 s6 s7 s8 s9)) (ha : a.size ≤ 140737488355328) (hb : b.size ≤ 140737488355328) (he : -9223372036854775808 ≤ e ∧ e ≤ 9223372036854775807) (h1 : inI first = true) (h2 : inI further = true) (h3 : inI least = true)
    (H : Ev (fun k => quipulaw16_DigitsPieces.l0 k (wrap64 (x7 + 1)) c n a b e p s0 s1 s2 s3 s4 s5 s6 s7 s8 s9 s10 s11 s12 s13 s14 s15 s16 s17 s18 s19 s20 first further least al) true) : Ev (fun k => quipulaw16_DigitsPieces.l0 k x7 c n a b e p s0 s1 s2 s3 s4 s5 s6 s7 s8 s9 s10 s11 s12 s13 s14 s15 s16 s17 s18 s19 s20 first further least al) true := by
  have hlen := pieces_len (symsOf s0 s1 s2 s3 s4 s5 s6 s7 s8 s9) s10 s11 s17 s18 c n a b e first further least al
  obtain ⟨K1, hK1⟩ := ref_f c n a b e p s0 s1 s2 s3 s4 s5 s6 s7 s8 s9 s10 s11 s12 s13 s14 s15 s16 s17 s18 s19 s20 first further least al hD ha hb h1
  obtain ⟨K2, hK2⟩ := same_p (piecesL (symsOf s0 s1 s2 s3 s4 s5 s6 s7 s8 s9) s10 s11 s17 s18 c n a b e first further least al) (by omega)
  obtain ⟨K3, hK3⟩ := law_l1 c n a b e p s0 s1 s2 s3 s4 s5 s6 s7 s8 s9 s10 s11 s12 s13 s14 s15 s16 s17 s18 s19 s20 first further least al x7 true H _ 0 (piecesL (symsOf s0 s1 s2 s3 s4 s5 s6 s7 s8 s9) s10 s11 s17 s18 c n a b e first further least al) (by omega) rfl (Nat.zero_le _)
  refine ⟨K1 + K2 + K3 + 1, fun k hk => ?_⟩
  obtain ⟨k, rfl⟩ : ∃ q, k = q + 1 := ⟨k - 1, by omega⟩
  have e1 : quipuref16_Pieces.f k c n a b e p s0 s1 s2 s3 s4 s5 s6 s7 s8 s9 s10 s11 s12 s13 s14 s15 s16 s17 s18 s19 s20 first further least al = _ := hK1 k (by omega)
  have e2 : quipuref16_Same.f k _ _ = some true := hK2 k (by omega)
  have e3 := hK3 k (by omega)
  show quipulaw16_DigitsPieces.l0 (k + 1) x7 c n a b e p s0 s1 s2 s3 s4 s5 s6 s7 s8 s9 s10 s11 s12 s13 s14 s15 s16 s17 s18 s19 s20 first further least al = _
  simp only [quipulaw16_DigitsPieces.l0]
  rw [if_pos h7, pieces_f c n a b e p s0 s1 s2 s3 s4 s5 s6 s7 s8 s9 s10 s11 s12 s13 s14 s15 s16 s17 s18 s19 s20 first further least al hD ha hb he h1 h2 h3, Option.bind_some, e1, Option.bind_some, e2, Option.bind_some, if_pos rfl]
  exact e3
theorem lawPieces (c : Int) (n : Bool) (a b : ByteArray) (e : Int) (p : Bool) (s0 s1 s2 s3 s4 s5 s6 s7 s8 s9 s10 s11 s12 s13 s14 s15 s16 s17 s18 s19 s20 : ByteArray) (first further least : Int) (al : Bool) (hD : Small (symsOf s0 s1 s2 s3 s4 s5 s6 s7 s8 s9)) (ha : a.size ≤ 140737488355328) (hb : b.size ≤ 140737488355328) (he : -9223372036854775808 ≤ e ∧ e ≤ 9223372036854775807) (h1 : inI first = true) (h2 : inI further = true) (h3 : inI least = true) :
    Ev (fun k => quipulaw16_DigitsPieces.f k c n a b e p s0 s1 s2 s3 s4 s5 s6 s7 s8 s9 s10 s11 s12 s13 s14 s15 s16 s17 s18 s19 s20 first further least al) true := by
  have w0 : wrap64 ((0 : Int) + 1) = 1 := by unfold wrap64; omega
  have w1 : wrap64 ((1 : Int) + 1) = 2 := by unfold wrap64; omega
  have t2 : Ev (fun k => quipulaw16_DigitsPieces.l0 k 2 c n a b e p s0 s1 s2 s3 s4 s5 s6 s7 s8 s9 s10 s11 s12 s13 s14 s15 s16 s17 s18 s19 s20 first further least al) true := by
    refine Ev.now 2 (fun k => ?_)
    simp only [quipulaw16_DigitsPieces.l0]
    rw [if_neg (by omega), awake_p]
    rfl
  have t1 : Ev (fun k => quipulaw16_DigitsPieces.l0 k 1 c n a b e p s0 s1 s2 s3 s4 s5 s6 s7 s8 s9 s10 s11 s12 s13 s14 s15 s16 s17 s18 s19 s20 first further least al) true :=
    law_turn c n a b e p s0 s1 s2 s3 s4 s5 s6 s7 s8 s9 s10 s11 s12 s13 s14 s15 s16 s17 s18 s19 s20 first further least al 1 (by omega) hD ha hb he h1 h2 h3 (by rw [w1]; exact t2)
  have t0 : Ev (fun k => quipulaw16_DigitsPieces.l0 k 0 c n a b e p s0 s1 s2 s3 s4 s5 s6 s7 s8 s9 s10 s11 s12 s13 s14 s15 s16 s17 s18 s19 s20 first further least al) true :=
    law_turn c n a b e p s0 s1 s2 s3 s4 s5 s6 s7 s8 s9 s10 s11 s12 s13 s14 s15 s16 s17 s18 s19 s20 first further least al 0 (by omega) hD ha hb he h1 h2 h3 (by rw [w0]; exact t1)
  exact t0
end Go.Proofs.YtefejkhcbelahaaDoor.Q
