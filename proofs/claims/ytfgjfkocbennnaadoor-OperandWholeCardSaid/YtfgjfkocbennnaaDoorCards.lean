/-
  DERIVED. GIVEN WITH THE SEED: THE CARDS: each row of YtfgjfkocbennnaaDoorRows.lean that lists a variable, with what it lists TIED to the program's text (the seventh form; the later family's looks); each row that meets fmt, with fmt's text TOLD by the authors' own Lean function (tested against real Go, not proved from fmt's source: count such statements apart). THE CARD IS WHAT COUNTS. Prove the row's statement (the work); the ties are given (YtfgjfkocbennnaaDoorTie.lean); close each card by the builder's one call (the guide's Derived/Test/ToyasCard.lean, 'card_holds'). Laid BY PROGRAM, IN A SANDBOX (cutbox-door.mjs). By AI agents, Wed Nov 11 2026. No macro, syntax, notation, axiom, sorry.
-/
import Derived.Test.YtfgjfkocbennnaaDoorRows
import GoSem.ClaimSeven
namespace Go.Proofs.YtfgjfkocbennnaaDoor
namespace Rows

/-- THE TIED CARD OF 'quipulaw08.OperandTells'. -/
def operandTellsCard : Claim7 := { stood := { row := operandTellsRow, standIns := [], harness := (true, "c6a8aae3d9e6d32592726174d24a08597a937f4c642436570dd5d99179fb1ed8"), looks := false }, kinds := [], alts := [], laidByText := true, laidKinds := [.data, .pinned], laidTests := true, laidLooks := .later }
def OperandTellsCardSaid : Prop := Claim7.holds Tryd.pinned (.plain (OpenSpec.ofChange operandTellsSpec)) operandTellsCard

/-- THE TIED CARD OF 'quipulaw08.OperandMay'. -/
def operandMayCard : Claim7 := { stood := { row := operandMayRow, standIns := [], harness := (true, "c6a8aae3d9e6d32592726174d24a08597a937f4c642436570dd5d99179fb1ed8"), looks := false }, kinds := [], alts := [], laidByText := true, laidKinds := [.data, .pinned], laidTests := true, laidLooks := .later }
def OperandMayCardSaid : Prop := Claim7.holds Tryd.pinned (.plain (OpenSpec.ofChange operandMaySpec)) operandMayCard

/-- THE TIED CARD OF 'quipulaw08.OperandNoughts'. -/
def operandNoughtsCard : Claim7 := { stood := { row := operandNoughtsRow, standIns := [], harness := (true, "c6a8aae3d9e6d32592726174d24a08597a937f4c642436570dd5d99179fb1ed8"), looks := false }, kinds := [], alts := [], laidByText := true, laidKinds := [.data, .pinned], laidTests := true, laidLooks := .later }
def OperandNoughtsCardSaid : Prop := Claim7.holds Tryd.pinned (.plain (OpenSpec.ofChange operandNoughtsSpec)) operandNoughtsCard

/-- THE TIED CARD OF 'quipulaw08.OperandWhole'. -/
def operandWholeCard : Claim7 := { stood := { row := operandWholeRow, standIns := [], harness := (true, "c6a8aae3d9e6d32592726174d24a08597a937f4c642436570dd5d99179fb1ed8"), looks := false }, kinds := [], alts := [], laidByText := true, laidKinds := [.data, .pinned], laidTests := true, laidLooks := .later }
def OperandWholeCardSaid : Prop := Claim7.holds Tryd.pinned (.plain (OpenSpec.ofChange operandWholeSpec)) operandWholeCard

/-- THE SECOND FORM's CARD OF 'quipulaw08.OperandTells'. -/
def operandTellsUptoCard : Claim7 := { stood := { row := operandTellsUptoRow, standIns := [], harness := (true, "c6a8aae3d9e6d32592726174d24a08597a937f4c642436570dd5d99179fb1ed8"), looks := false }, kinds := [], alts := [], laidByText := true, laidKinds := [.data, .pinned], laidTests := true, laidLooks := .later }
def OperandTellsUptoCardSaid : Prop := Claim7.holds Tryd.pinned (.plain (OpenSpec.upto operandTellsSpec)) operandTellsUptoCard

/-- THE SECOND FORM's CARD OF 'quipulaw08.OperandMay'. -/
def operandMayUptoCard : Claim7 := { stood := { row := operandMayUptoRow, standIns := [], harness := (true, "c6a8aae3d9e6d32592726174d24a08597a937f4c642436570dd5d99179fb1ed8"), looks := false }, kinds := [], alts := [], laidByText := true, laidKinds := [.data, .pinned], laidTests := true, laidLooks := .later }
def OperandMayUptoCardSaid : Prop := Claim7.holds Tryd.pinned (.plain (OpenSpec.upto operandMaySpec)) operandMayUptoCard

/-- THE SECOND FORM's CARD OF 'quipulaw08.OperandNoughts'. -/
def operandNoughtsUptoCard : Claim7 := { stood := { row := operandNoughtsUptoRow, standIns := [], harness := (true, "c6a8aae3d9e6d32592726174d24a08597a937f4c642436570dd5d99179fb1ed8"), looks := false }, kinds := [], alts := [], laidByText := true, laidKinds := [.data, .pinned], laidTests := true, laidLooks := .later }
def OperandNoughtsUptoCardSaid : Prop := Claim7.holds Tryd.pinned (.plain (OpenSpec.upto operandNoughtsSpec)) operandNoughtsUptoCard

/-- THE SECOND FORM's CARD OF 'quipulaw08.OperandWhole'. -/
def operandWholeUptoCard : Claim7 := { stood := { row := operandWholeUptoRow, standIns := [], harness := (true, "c6a8aae3d9e6d32592726174d24a08597a937f4c642436570dd5d99179fb1ed8"), looks := false }, kinds := [], alts := [], laidByText := true, laidKinds := [.data, .pinned], laidTests := true, laidLooks := .later }
def OperandWholeUptoCardSaid : Prop := Claim7.holds Tryd.pinned (.plain (OpenSpec.upto operandWholeSpec)) operandWholeUptoCard
end Rows
end Go.Proofs.YtfgjfkocbennnaaDoor
