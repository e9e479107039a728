/-
  DERIVED. GIVEN WITH THE SEED: THE CARDS: each row of YtepahimiakgieaaDoorRows.lean that lists a variable, with what it lists TIED to the program's text (the seventh form; the later family's looks); each row that meets fmt, with fmt's text TOLD by the authors' own Lean function (tested against real Go, not proved from fmt's source: count such statements apart). THE CARD IS WHAT COUNTS. Prove the row's statement (the work); the ties are given (YtepahimiakgieaaDoorTie.lean); close each card by the builder's one call (the guide's Derived/Test/ToyasCard.lean, 'card_holds'). Laid BY PROGRAM, IN A SANDBOX (cutbox-door.mjs). By AI agents, Wed Nov 11 2026. No macro, syntax, notation, axiom, sorry.
-/
import Derived.Test.YtepahimiakgieaaDoorRows
import GoSem.ClaimSeven
namespace Go.Proofs.YtepahimiakgieaaDoor
namespace Rows

/-- THE TIED CARD OF 'quipulaw20.MoneyCounts'. -/
def moneyCountsCard : Claim7 := { stood := { row := moneyCountsRow, standIns := [], harness := (true, "4bf7c84c5de23308afbecc0df3065ec6e1aaff4fa03480908706e98db964349c"), looks := false }, kinds := [], alts := [], laidByText := true, laidKinds := [.data, .data, .data, .data, .pinned], laidTests := true, laidLooks := .later }
def MoneyCountsCardSaid : Prop := Claim7.holds Tryd.pinned (.plain (OpenSpec.ofChange moneyCountsSpec)) moneyCountsCard

/-- THE TIED CARD OF 'quipulaw20.MoneyTells'. -/
def moneyTellsCard : Claim7 := { stood := { row := moneyTellsRow, standIns := [], harness := (true, "4bf7c84c5de23308afbecc0df3065ec6e1aaff4fa03480908706e98db964349c"), looks := false }, kinds := [], alts := [], laidByText := true, laidKinds := [.data, .data, .data, .data, .pinned], laidTests := true, laidLooks := .later }
def MoneyTellsCardSaid : Prop := Claim7.holds Tryd.pinned (.plain (OpenSpec.ofChange moneyTellsSpec)) moneyTellsCard

/-- THE TIED CARD OF 'quipulaw20.MoneySpaces'. -/
def moneySpacesCard : Claim7 := { stood := { row := moneySpacesRow, standIns := [], harness := (true, "4bf7c84c5de23308afbecc0df3065ec6e1aaff4fa03480908706e98db964349c"), looks := false }, kinds := [], alts := [], laidByText := true, laidKinds := [.data, .data, .data, .data, .pinned], laidTests := true, laidLooks := .later }
def MoneySpacesCardSaid : Prop := Claim7.holds Tryd.pinned (.plain (OpenSpec.ofChange moneySpacesSpec)) moneySpacesCard

/-- THE TIED CARD OF 'quipulaw20.MoneyFinds'. -/
def moneyFindsCard : Claim7 := { stood := { row := moneyFindsRow, standIns := [], harness := (true, "4bf7c84c5de23308afbecc0df3065ec6e1aaff4fa03480908706e98db964349c"), looks := false }, kinds := [], alts := [], laidByText := true, laidKinds := [.data, .data, .data, .data, .pinned], laidTests := true, laidLooks := .later }
def MoneyFindsCardSaid : Prop := Claim7.holds Tryd.pinned (.plain (OpenSpec.ofChange moneyFindsSpec)) moneyFindsCard

/-- THE SECOND FORM's CARD OF 'quipulaw20.MoneyCounts'. -/
def moneyCountsUptoCard : Claim7 := { stood := { row := moneyCountsUptoRow, standIns := [], harness := (true, "4bf7c84c5de23308afbecc0df3065ec6e1aaff4fa03480908706e98db964349c"), looks := false }, kinds := [], alts := [], laidByText := true, laidKinds := [.data, .data, .data, .data, .pinned], laidTests := true, laidLooks := .later }
def MoneyCountsUptoCardSaid : Prop := Claim7.holds Tryd.pinned (.plain (OpenSpec.upto moneyCountsSpec)) moneyCountsUptoCard

/-- THE SECOND FORM's CARD OF 'quipulaw20.MoneyTells'. -/
def moneyTellsUptoCard : Claim7 := { stood := { row := moneyTellsUptoRow, standIns := [], harness := (true, "4bf7c84c5de23308afbecc0df3065ec6e1aaff4fa03480908706e98db964349c"), looks := false }, kinds := [], alts := [], laidByText := true, laidKinds := [.data, .data, .data, .data, .pinned], laidTests := true, laidLooks := .later }
def MoneyTellsUptoCardSaid : Prop := Claim7.holds Tryd.pinned (.plain (OpenSpec.upto moneyTellsSpec)) moneyTellsUptoCard

/-- THE SECOND FORM's CARD OF 'quipulaw20.MoneySpaces'. -/
def moneySpacesUptoCard : Claim7 := { stood := { row := moneySpacesUptoRow, standIns := [], harness := (true, "4bf7c84c5de23308afbecc0df3065ec6e1aaff4fa03480908706e98db964349c"), looks := false }, kinds := [], alts := [], laidByText := true, laidKinds := [.data, .data, .data, .data, .pinned], laidTests := true, laidLooks := .later }
def MoneySpacesUptoCardSaid : Prop := Claim7.holds Tryd.pinned (.plain (OpenSpec.upto moneySpacesSpec)) moneySpacesUptoCard

/-- THE SECOND FORM's CARD OF 'quipulaw20.MoneyFinds'. -/
def moneyFindsUptoCard : Claim7 := { stood := { row := moneyFindsUptoRow, standIns := [], harness := (true, "4bf7c84c5de23308afbecc0df3065ec6e1aaff4fa03480908706e98db964349c"), looks := false }, kinds := [], alts := [], laidByText := true, laidKinds := [.data, .data, .data, .data, .pinned], laidTests := true, laidLooks := .later }
def MoneyFindsUptoCardSaid : Prop := Claim7.holds Tryd.pinned (.plain (OpenSpec.upto moneyFindsSpec)) moneyFindsUptoCard
end Rows
end Go.Proofs.YtepahimiakgieaaDoor
