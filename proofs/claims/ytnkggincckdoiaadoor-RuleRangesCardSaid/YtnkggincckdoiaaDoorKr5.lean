import Derived.Test.YtnkggincckdoiaaDoorKr4
namespace Go.Proofs.YtnkggincckdoiaaDoor.Q
open Go.RowKit Go.Proofs.YtnkggincckdoiaaDoorW.PrintWords Go.Proofs.YtnkggincckdoiaaDoorW.PrintLast Go.Proofs.YtnkggincckdoiaaDoorW.PrintMore
set_option linter.unusedVariables false
set_option linter.unusedSimpArgs false
def cutL (s c : ByteArray) : ByteArray := mkS (Lib.trimLeftS s.data.toList c.data.toList)
def sBl : ByteArray := ⟨#[32]⟩
def sLow : ByteArray := ⟨#[97, 98, 99, 100, 101, 102, 103, 104, 105, 106, 107, 108, 109, 110, 111, 112, 113, 114, 115, 116, 117, 118, 119, 120, 121, 122]⟩
def sDig : ByteArray := ⟨#[48, 49, 50, 51, 52, 53, 54, 55, 56, 57]⟩
def sSig : ByteArray := ⟨#[58, 59, 37, 61, 44, 43]⟩
/-- How long the next part is, of a text that begins with no blank. -/
def tokN (s : ByteArray) : Option Nat :=
  if s.size - (cutL s sLow).size ≠ 0 then some (s.size - (cutL s sLow).size)
  else if s.size - (cutL s sDig).size ≠ 0 then some (s.size - (cutL s sDig).size)
  else if (Lib.hasPrefix s.data.toList [33, 61] || Lib.hasPrefix s.data.toList [46, 46]) = true then some 2
  else if s.size = 0 then some 0
  else if 0 ≤ Lib.indexByte sSig.data.toList (s.data.toList.headD 0) then some 1 else none
/-- The parts; none: there is something else. -/
def toks : Nat → ByteArray → Option (List ByteArray)
  | 0, _ => none
  | k + 1, s =>
    match tokN (cutL s sBl) with
    | none => none
    | some n => if (cutL s sBl).size = 0 then some [] else (toks k ((cutL s sBl).extract n (cutL s sBl).size)).map ((cutL s sBl).extract 0 n :: ·)
theorem trim_in (s c : ByteArray) (hc : ascB c = true) (w : World) : Calls Tryd.prog 46 #[.string s, .string c] w fun e w' => e = .returned (.string (cutL s c)) ∧ Below w.heap.size w w' :=
  strings_TrimLeft.calls s c _ w (by unfold strings_TrimLeft.f; rw [if_pos hc]; rfl)
theorem asc_bl : ascB sBl = true := by decide
theorem asc_low : ascB sLow = true := by decide
theorem asc_dig : ascB sDig = true := by decide
end Go.Proofs.YtnkggincckdoiaaDoor.Q
