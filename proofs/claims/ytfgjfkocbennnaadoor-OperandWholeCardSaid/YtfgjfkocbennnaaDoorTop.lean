import Derived.Test.YtfgjfkocbennnaaDoorRefMay
import Derived.Test.YtfgjfkocbennnaaDoorAwake
namespace Go.Proofs.YtfgjfkocbennnaaDoor.Q
open Go.RowKit Go.Proofs.YtfgjfkocbennnaaDoorW.PrintWords Go.Proofs.YtfgjfkocbennnaaDoorW.PrintMore
set_option linter.unusedVariables false
set_option linter.unusedSimpArgs false

/-! ### What the laws call, by plain functions -/
def fits (a b : ByteArray) (e : Int) : Bool := decide (a.size ≤ 140737488355328) && decide (b.size ≤ 140737488355328) && decide (-9223372036854775808 ≤ e) && decide (e ≤ 9223372036854775807)
theorem fits_yes {a b : ByteArray} {e : Int} (h : fits a b e = true) : a.size ≤ 140737488355328 ∧ b.size ≤ 140737488355328 ∧ -9223372036854775808 ≤ e ∧ e ≤ 9223372036854775807 := by
  unfold fits at h
  simp only [Bool.and_eq_true, decide_eq_true_eq] at h
  omega
def opOf.f (c : Int) (n : Bool) (a b : ByteArray) (e : Int) (p : Bool) : Option Ops := if fits a b e = true then some (ofP c n a b e p) else none
theorem opOf.calls (a0_0 : Int) (a0_1 : Bool) (a0_2 : ByteArray) (a0_3 : ByteArray) (a0_4 : Int) (a0_5 : Bool) (r1 : ByteArray) (r2 : Int) (r3 : Int) (r4 : ByteArray) (r5 : ByteArray) (r6 : Int) (r7 : Int) (w : World) (h : opOf.f a0_0 a0_1 a0_2 a0_3 a0_4 a0_5 = some (r1, r2, r3, r4, r5, r6, r7)) :
    Calls Tryd.prog 7 #[.agg #[.int .i64 a0_0, .bool a0_1, .string a0_2, .string a0_3, .int .i64 a0_4, .bool a0_5]] w fun e w' => e = .returned (.tuple #[.agg #[.string r1, .int .i64 r2, .int .i64 r3, .string r4, .string r5, .int .i64 r6], .int .i64 r7]) ∧ Below w.heap.size w w' := by
  unfold opOf.f at h
  by_cases c1 : fits a0_2 a0_3 a0_4 = true
  · rw [if_pos c1] at h
    obtain ⟨g1, g2, g3, g4⟩ := fits_yes c1
    exact operand_Of.calls 2 a0_0 a0_1 a0_2 a0_3 a0_4 a0_5 r1 r2 r3 r4 r5 r6 r7 w (by rw [Of_p _ _ _ _ _ _ g1 g2 ⟨g3, g4⟩ 2 (by decide)]; exact h)
  · rw [if_neg c1] at h; cases h
def wValue.f (c : Int) (n : Bool) (a b : ByteArray) (e : Int) (p : Bool) : Option Val := if fits a b e = true then some (valP c n a b e) else none
theorem wValue.calls (a0_0 : Int) (a0_1 : Bool) (a0_2 : ByteArray) (a0_3 : ByteArray) (a0_4 : Int) (a0_5 : Bool) (r1 : Int) (r2 : Bool) (r3 : ByteArray) (r4 : Int) (r5 : Int) (w : World) (h : wValue.f a0_0 a0_1 a0_2 a0_3 a0_4 a0_5 = some (r1, r2, r3, r4, r5)) :
    Calls Tryd.prog 12 #[.agg #[.int .i64 a0_0, .bool a0_1, .string a0_2, .string a0_3, .int .i64 a0_4, .bool a0_5]] w fun e w' => e = .returned (.tuple #[.agg #[.int .i64 r1, .bool r2, .string r3, .int .i64 r4], .int .i64 r5]) ∧ Below w.heap.size w w' := by
  unfold wValue.f at h
  by_cases c1 : fits a0_2 a0_3 a0_4 = true
  · rw [if_pos c1] at h
    obtain ⟨g1, g2, g3, g4⟩ := fits_yes c1
    exact width_Value.calls 1 a0_0 a0_1 a0_2 a0_3 a0_4 a0_5 r1 r2 r3 r4 r5 w (by rw [Value_p _ _ _ _ _ _ g1 g2 ⟨g3, g4⟩ 1 (by decide)]; exact h)
  · rw [if_neg c1] at h; cases h
def rMay7.f (c : Int) (n : Bool) (a b : ByteArray) (e : Int) (p : Bool) : Option Bool := if fits a b e = true then some (mayR c n a b e) else none
theorem rMay7.calls (a0_0 : Int) (a0_1 : Bool) (a0_2 : ByteArray) (a0_3 : ByteArray) (a0_4 : Int) (a0_5 : Bool) (r : Bool) (w : World) (h : rMay7.f a0_0 a0_1 a0_2 a0_3 a0_4 a0_5 = some r) :
    Calls Tryd.prog 13 #[.agg #[.int .i64 a0_0, .bool a0_1, .string a0_2, .string a0_3, .int .i64 a0_4, .bool a0_5]] w fun e w' => e = .returned (.bool r) ∧ Below w.heap.size w w' := by
  unfold rMay7.f at h
  by_cases c1 : fits a0_2 a0_3 a0_4 = true
  · rw [if_pos c1] at h
    obtain ⟨g1, g2, g3, g4⟩ := fits_yes c1
    obtain ⟨K, hK⟩ := May_p a0_0 a0_1 a0_2 a0_3 a0_4 a0_5 g1 g2
    exact quipuref07_May.calls K a0_0 a0_1 a0_2 a0_3 a0_4 a0_5 r w (by rw [hK K (Nat.le_refl _)]; exact h)
  · rw [if_neg c1] at h; cases h
def opMay.f (i : ByteArray) (v u : Int) (f t : ByteArray) (e : Int) : Option Bool :=
  if i.size ≤ 140737488355328 then (if f.size ≤ 140737488355328 then (if t.size ≤ 140737488355328 then some (mayO i v u f t e) else none) else none) else none
theorem opMay.calls (a0_0 : ByteArray) (a0_1 a0_2 : Int) (a0_3 a0_4 : ByteArray) (a0_5 : Int) (r : Bool) (w : World) (h : opMay.f a0_0 a0_1 a0_2 a0_3 a0_4 a0_5 = some r) :
    Calls Tryd.prog 10 #[.agg #[.string a0_0, .int .i64 a0_1, .int .i64 a0_2, .string a0_3, .string a0_4, .int .i64 a0_5]] w fun e w' => e = .returned (.bool r) ∧ Below w.heap.size w w' := by
  unfold opMay.f at h
  by_cases c1 : a0_0.size ≤ 140737488355328
  · rw [if_pos c1] at h
    by_cases c2 : a0_3.size ≤ 140737488355328
    · rw [if_pos c2] at h
      by_cases c3 : a0_4.size ≤ 140737488355328
      · rw [if_pos c3] at h
        exact operand_May.calls 2 a0_0 a0_1 a0_2 a0_3 a0_4 a0_5 r w (by rw [OMay_p _ _ _ _ _ _ c1 c2 c3 2 (by decide)]; exact h)
      · rw [if_neg c3] at h; cases h
    · rw [if_neg c2] at h; cases h
  · rw [if_neg c1] at h; cases h
end Go.Proofs.YtfgjfkocbennnaaDoor.Q
