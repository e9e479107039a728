/-
  DERIVED. GIVEN WITH THE SEED: THE CARDS: each row of YtnkggincckdoiaaDoorRows.lean that lists a variable, with what it lists TIED to the program's text (the seventh form; the later family's looks); each row that meets fmt, with fmt's text TOLD by the authors' own Lean function (tested against real Go, not proved from fmt's source: count such statements apart). THE CARD IS WHAT COUNTS. Prove the row's statement (the work); the ties are given (YtnkggincckdoiaaDoorTie.lean); close each card by the builder's one call (the guide's Derived/Test/ToyasCard.lean, 'card_holds'). Laid BY PROGRAM, IN A SANDBOX (cutbox-door.mjs). By AI agents, Wed Nov 11 2026. No macro, syntax, notation, axiom, sorry.
-/
import Derived.Test.YtnkggincckdoiaaDoorRows
import GoSem.ClaimSeven
namespace Go.Proofs.YtnkggincckdoiaaDoor
namespace Rows

/-- THE TIED CARD OF 'quipulaw09.RuleRanges'. -/
def ruleRangesCard : Claim7 := { stood := { row := ruleRangesRow, standIns := [], harness := (true, "03f20d780f872b6f893a4f632a5ffffb8201d99ec01101c5bc56ea71852e693e"), looks := true }, kinds := [], alts := [], laidByText := true, laidKinds := [.data, .data, .data, .data, .sentinel, .sentinel, .pinned], laidTests := true, laidLooks := .later }
def RuleRangesCardSaid : Prop := Claim7.holds Tryd.pinned (.plain (OpenSpec.ofChange ruleRangesSpec)) ruleRangesCard

/-- THE TIED CARD OF 'quipulaw09.RuleLogic'. -/
def ruleLogicCard : Claim7 := { stood := { row := ruleLogicRow, standIns := [], harness := (true, "03f20d780f872b6f893a4f632a5ffffb8201d99ec01101c5bc56ea71852e693e"), looks := true }, kinds := [], alts := [], laidByText := true, laidKinds := [.data, .data, .data, .data, .sentinel, .sentinel, .pinned], laidTests := true, laidLooks := .later }
def RuleLogicCardSaid : Prop := Claim7.holds Tryd.pinned (.plain (OpenSpec.ofChange ruleLogicSpec)) ruleLogicCard

/-- THE TIED CARD OF 'quipulaw09.RuleOrder'. -/
def ruleOrderCard : Claim7 := { stood := { row := ruleOrderRow, standIns := [], harness := (true, "03f20d780f872b6f893a4f632a5ffffb8201d99ec01101c5bc56ea71852e693e"), looks := true }, kinds := [], alts := [], laidByText := true, laidKinds := [.data, .data, .data, .data, .sentinel, .sentinel, .pinned], laidTests := true, laidLooks := .later }
def RuleOrderCardSaid : Prop := Claim7.holds Tryd.pinned (.plain (OpenSpec.ofChange ruleOrderSpec)) ruleOrderCard

/-- THE TIED CARD OF 'quipulaw09.RuleBlanks'. -/
def ruleBlanksCard : Claim7 := { stood := { row := ruleBlanksRow, standIns := [], harness := (true, "03f20d780f872b6f893a4f632a5ffffb8201d99ec01101c5bc56ea71852e693e"), looks := true }, kinds := [], alts := [], laidByText := true, laidKinds := [.data, .data, .data, .data, .sentinel, .sentinel, .pinned], laidTests := true, laidLooks := .later }
def RuleBlanksCardSaid : Prop := Claim7.holds Tryd.pinned (.plain (OpenSpec.ofChange ruleBlanksSpec)) ruleBlanksCard

/-- THE TIED CARD OF 'quipulaw09.RuleRests'. -/
def ruleRestsCard : Claim7 := { stood := { row := ruleRestsRow, standIns := [], harness := (true, "03f20d780f872b6f893a4f632a5ffffb8201d99ec01101c5bc56ea71852e693e"), looks := true }, kinds := [], alts := [], laidByText := true, laidKinds := [.data, .data, .data, .data, .sentinel, .sentinel, .pinned], laidTests := true, laidLooks := .later }
def RuleRestsCardSaid : Prop := Claim7.holds Tryd.pinned (.plain (OpenSpec.ofChange ruleRestsSpec)) ruleRestsCard

/-- THE SECOND FORM's CARD OF 'quipulaw09.RuleRanges'. -/
def ruleRangesUptoCard : Claim7 := { stood := { row := ruleRangesUptoRow, standIns := [], harness := (true, "03f20d780f872b6f893a4f632a5ffffb8201d99ec01101c5bc56ea71852e693e"), looks := true }, kinds := [], alts := [], laidByText := true, laidKinds := [.data, .data, .data, .data, .sentinel, .sentinel, .pinned], laidTests := true, laidLooks := .later }
def RuleRangesUptoCardSaid : Prop := Claim7.holds Tryd.pinned (.plain (OpenSpec.upto ruleRangesSpec)) ruleRangesUptoCard

/-- THE SECOND FORM's CARD OF 'quipulaw09.RuleLogic'. -/
def ruleLogicUptoCard : Claim7 := { stood := { row := ruleLogicUptoRow, standIns := [], harness := (true, "03f20d780f872b6f893a4f632a5ffffb8201d99ec01101c5bc56ea71852e693e"), looks := true }, kinds := [], alts := [], laidByText := true, laidKinds := [.data, .data, .data, .data, .sentinel, .sentinel, .pinned], laidTests := true, laidLooks := .later }
def RuleLogicUptoCardSaid : Prop := Claim7.holds Tryd.pinned (.plain (OpenSpec.upto ruleLogicSpec)) ruleLogicUptoCard

/-- THE SECOND FORM's CARD OF 'quipulaw09.RuleOrder'. -/
def ruleOrderUptoCard : Claim7 := { stood := { row := ruleOrderUptoRow, standIns := [], harness := (true, "03f20d780f872b6f893a4f632a5ffffb8201d99ec01101c5bc56ea71852e693e"), looks := true }, kinds := [], alts := [], laidByText := true, laidKinds := [.data, .data, .data, .data, .sentinel, .sentinel, .pinned], laidTests := true, laidLooks := .later }
def RuleOrderUptoCardSaid : Prop := Claim7.holds Tryd.pinned (.plain (OpenSpec.upto ruleOrderSpec)) ruleOrderUptoCard

/-- THE SECOND FORM's CARD OF 'quipulaw09.RuleBlanks'. -/
def ruleBlanksUptoCard : Claim7 := { stood := { row := ruleBlanksUptoRow, standIns := [], harness := (true, "03f20d780f872b6f893a4f632a5ffffb8201d99ec01101c5bc56ea71852e693e"), looks := true }, kinds := [], alts := [], laidByText := true, laidKinds := [.data, .data, .data, .data, .sentinel, .sentinel, .pinned], laidTests := true, laidLooks := .later }
def RuleBlanksUptoCardSaid : Prop := Claim7.holds Tryd.pinned (.plain (OpenSpec.upto ruleBlanksSpec)) ruleBlanksUptoCard

/-- THE SECOND FORM's CARD OF 'quipulaw09.RuleRests'. -/
def ruleRestsUptoCard : Claim7 := { stood := { row := ruleRestsUptoRow, standIns := [], harness := (true, "03f20d780f872b6f893a4f632a5ffffb8201d99ec01101c5bc56ea71852e693e"), looks := true }, kinds := [], alts := [], laidByText := true, laidKinds := [.data, .data, .data, .data, .sentinel, .sentinel, .pinned], laidTests := true, laidLooks := .later }
def RuleRestsUptoCardSaid : Prop := Claim7.holds Tryd.pinned (.plain (OpenSpec.upto ruleRestsSpec)) ruleRestsUptoCard
end Rows
end Go.Proofs.YtnkggincckdoiaaDoor
