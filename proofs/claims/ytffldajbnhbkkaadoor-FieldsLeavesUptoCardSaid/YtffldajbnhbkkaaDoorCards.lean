/-
  DERIVED. GIVEN WITH THE SEED: THE CARDS: each row of YtffldajbnhbkkaaDoorRows.lean that lists a variable, with what it lists TIED to the program's text (the seventh form; the later family's looks); each row that meets fmt, with fmt's text TOLD by the authors' own Lean function (tested against real Go, not proved from fmt's source: count such statements apart). THE CARD IS WHAT COUNTS. Prove the row's statement (the work); the ties are given (YtffldajbnhbkkaaDoorTie.lean); close each card by the builder's one call (the guide's Derived/Test/ToyasCard.lean, 'card_holds'). Laid BY PROGRAM, IN A SANDBOX (cutbox-door.mjs). By AI agents, Wed Nov 11 2026. No macro, syntax, notation, axiom, sorry.
-/
import Derived.Test.YtffldajbnhbkkaaDoorRows
import GoSem.ClaimSeven
namespace Go.Proofs.YtffldajbnhbkkaaDoor
namespace Rows

/-- THE TIED CARD OF 'quipulaw17.FieldsBuilds'. -/
def fieldsBuildsCard : Claim7 := { stood := { row := fieldsBuildsRow, standIns := [], harness := (true, "40c022d9806f0e2bee3f87b625d6c16faf6c1283b50b7b954ecaf6574ad26e5b"), looks := true }, kinds := [], alts := [], laidByText := true, laidKinds := [.data, .pinned], laidTests := true, laidLooks := .later }
def FieldsBuildsCardSaid : Prop := Claim7.holds Tryd.pinned (.plain (OpenSpec.ofChange fieldsBuildsSpec)) fieldsBuildsCard

/-- THE TIED CARD OF 'quipulaw17.FieldsWraps'. -/
def fieldsWrapsCard : Claim7 := { stood := { row := fieldsWrapsRow, standIns := [], harness := (true, "40c022d9806f0e2bee3f87b625d6c16faf6c1283b50b7b954ecaf6574ad26e5b"), looks := true }, kinds := [], alts := [], laidByText := true, laidKinds := [.data, .pinned], laidTests := true, laidLooks := .later }
def FieldsWrapsCardSaid : Prop := Claim7.holds Tryd.pinned (.plain (OpenSpec.ofChange fieldsWrapsSpec)) fieldsWrapsCard

/-- THE TIED CARD OF 'quipulaw17.FieldsCover'. -/
def fieldsCoverCard : Claim7 := { stood := { row := fieldsCoverRow, standIns := [], harness := (true, "40c022d9806f0e2bee3f87b625d6c16faf6c1283b50b7b954ecaf6574ad26e5b"), looks := true }, kinds := [], alts := [], laidByText := true, laidKinds := [.data, .pinned], laidTests := true, laidLooks := .later }
def FieldsCoverCardSaid : Prop := Claim7.holds Tryd.pinned (.plain (OpenSpec.ofChange fieldsCoverSpec)) fieldsCoverCard

/-- THE TIED CARD OF 'quipulaw17.FieldsTrue'. -/
def fieldsTrueCard : Claim7 := { stood := { row := fieldsTrueRow, standIns := [], harness := (true, "40c022d9806f0e2bee3f87b625d6c16faf6c1283b50b7b954ecaf6574ad26e5b"), looks := true }, kinds := [], alts := [], laidByText := true, laidKinds := [.data, .pinned], laidTests := true, laidLooks := .later }
def FieldsTrueCardSaid : Prop := Claim7.holds Tryd.pinned (.plain (OpenSpec.ofChange fieldsTrueSpec)) fieldsTrueCard

/-- THE TIED CARD OF 'quipulaw17.FieldsLeaves'. -/
def fieldsLeavesCard : Claim7 := { stood := { row := fieldsLeavesRow, standIns := [], harness := (true, "40c022d9806f0e2bee3f87b625d6c16faf6c1283b50b7b954ecaf6574ad26e5b"), looks := true }, kinds := [], alts := [], laidByText := true, laidKinds := [.data, .pinned], laidTests := true, laidLooks := .later }
def FieldsLeavesCardSaid : Prop := Claim7.holds Tryd.pinned (.plain (OpenSpec.ofChange fieldsLeavesSpec)) fieldsLeavesCard

/-- THE SECOND FORM's CARD OF 'quipulaw17.FieldsBuilds'. -/
def fieldsBuildsUptoCard : Claim7 := { stood := { row := fieldsBuildsUptoRow, standIns := [], harness := (true, "40c022d9806f0e2bee3f87b625d6c16faf6c1283b50b7b954ecaf6574ad26e5b"), looks := true }, kinds := [], alts := [], laidByText := true, laidKinds := [.data, .pinned], laidTests := true, laidLooks := .later }
def FieldsBuildsUptoCardSaid : Prop := Claim7.holds Tryd.pinned (.plain (OpenSpec.upto fieldsBuildsSpec)) fieldsBuildsUptoCard

/-- THE SECOND FORM's CARD OF 'quipulaw17.FieldsWraps'. -/
def fieldsWrapsUptoCard : Claim7 := { stood := { row := fieldsWrapsUptoRow, standIns := [], harness := (true, "40c022d9806f0e2bee3f87b625d6c16faf6c1283b50b7b954ecaf6574ad26e5b"), looks := true }, kinds := [], alts := [], laidByText := true, laidKinds := [.data, .pinned], laidTests := true, laidLooks := .later }
def FieldsWrapsUptoCardSaid : Prop := Claim7.holds Tryd.pinned (.plain (OpenSpec.upto fieldsWrapsSpec)) fieldsWrapsUptoCard

/-- THE SECOND FORM's CARD OF 'quipulaw17.FieldsCover'. -/
def fieldsCoverUptoCard : Claim7 := { stood := { row := fieldsCoverUptoRow, standIns := [], harness := (true, "40c022d9806f0e2bee3f87b625d6c16faf6c1283b50b7b954ecaf6574ad26e5b"), looks := true }, kinds := [], alts := [], laidByText := true, laidKinds := [.data, .pinned], laidTests := true, laidLooks := .later }
def FieldsCoverUptoCardSaid : Prop := Claim7.holds Tryd.pinned (.plain (OpenSpec.upto fieldsCoverSpec)) fieldsCoverUptoCard

/-- THE SECOND FORM's CARD OF 'quipulaw17.FieldsTrue'. -/
def fieldsTrueUptoCard : Claim7 := { stood := { row := fieldsTrueUptoRow, standIns := [], harness := (true, "40c022d9806f0e2bee3f87b625d6c16faf6c1283b50b7b954ecaf6574ad26e5b"), looks := true }, kinds := [], alts := [], laidByText := true, laidKinds := [.data, .pinned], laidTests := true, laidLooks := .later }
def FieldsTrueUptoCardSaid : Prop := Claim7.holds Tryd.pinned (.plain (OpenSpec.upto fieldsTrueSpec)) fieldsTrueUptoCard

/-- THE SECOND FORM's CARD OF 'quipulaw17.FieldsLeaves'. -/
def fieldsLeavesUptoCard : Claim7 := { stood := { row := fieldsLeavesUptoRow, standIns := [], harness := (true, "40c022d9806f0e2bee3f87b625d6c16faf6c1283b50b7b954ecaf6574ad26e5b"), looks := true }, kinds := [], alts := [], laidByText := true, laidKinds := [.data, .pinned], laidTests := true, laidLooks := .later }
def FieldsLeavesUptoCardSaid : Prop := Claim7.holds Tryd.pinned (.plain (OpenSpec.upto fieldsLeavesSpec)) fieldsLeavesUptoCard
end Rows
end Go.Proofs.YtffldajbnhbkkaaDoor
