/-
  DERIVED. GIVEN WITH THE SEED: THE CARDS: each row of YtefejkhcbelahaaDoorRows.lean that lists a variable, with what it lists TIED to the program's text (the seventh form; the later family's looks); each row that meets fmt, with fmt's text TOLD by the authors' own Lean function (tested against real Go, not proved from fmt's source: count such statements apart). THE CARD IS WHAT COUNTS. Prove the row's statement (the work); the ties are given (YtefejkhcbelahaaDoorTie.lean); close each card by the builder's one call (the guide's Derived/Test/ToyasCard.lean, 'card_holds'). Laid BY PROGRAM, IN A SANDBOX (cutbox-door.mjs). By AI agents, Wed Nov 11 2026. No macro, syntax, notation, axiom, sorry.
-/
import Derived.Test.YtefejkhcbelahaaDoorRows
import GoSem.ClaimSeven
namespace Go.Proofs.YtefejkhcbelahaaDoor
namespace Rows

/-- THE TIED CARD OF 'quipulaw16.DigitsPieces'. -/
def digitsPiecesCard : Claim7 := { stood := { row := digitsPiecesRow, standIns := [], harness := (true, "1eeeeb1fb95d8e9eb3db3bbf8996531f6b2fa83db6242408c93eacc4bbbe17d6"), looks := false }, kinds := [], alts := [], laidByText := true, laidKinds := [.data, .data, .data, .data, .pinned], laidTests := true, laidLooks := .later }
def DigitsPiecesCardSaid : Prop := Claim7.holds Tryd.pinned (.plain (OpenSpec.ofChange digitsPiecesSpec)) digitsPiecesCard

/-- THE TIED CARD OF 'quipulaw16.DigitsExponent'. -/
def digitsExponentCard : Claim7 := { stood := { row := digitsExponentRow, standIns := [], harness := (true, "1eeeeb1fb95d8e9eb3db3bbf8996531f6b2fa83db6242408c93eacc4bbbe17d6"), looks := false }, kinds := [], alts := [], laidByText := true, laidKinds := [.data, .data, .data, .data, .pinned], laidTests := true, laidLooks := .later }
def DigitsExponentCardSaid : Prop := Claim7.holds Tryd.pinned (.plain (OpenSpec.ofChange digitsExponentSpec)) digitsExponentCard

/-- THE TIED CARD OF 'quipulaw16.DigitsWhole'. -/
def digitsWholeCard : Claim7 := { stood := { row := digitsWholeRow, standIns := [], harness := (true, "1eeeeb1fb95d8e9eb3db3bbf8996531f6b2fa83db6242408c93eacc4bbbe17d6"), looks := false }, kinds := [], alts := [], laidByText := true, laidKinds := [.data, .data, .data, .data, .pinned], laidTests := true, laidLooks := .later }
def DigitsWholeCardSaid : Prop := Claim7.holds Tryd.pinned (.plain (OpenSpec.ofChange digitsWholeSpec)) digitsWholeCard

/-- THE TIED CARD OF 'quipulaw16.DigitsSizes'. -/
def digitsSizesCard : Claim7 := { stood := { row := digitsSizesRow, standIns := [], harness := (true, "1eeeeb1fb95d8e9eb3db3bbf8996531f6b2fa83db6242408c93eacc4bbbe17d6"), looks := false }, kinds := [], alts := [], laidByText := true, laidKinds := [.data, .data, .data, .data, .pinned], laidTests := true, laidLooks := .later }
def DigitsSizesCardSaid : Prop := Claim7.holds Tryd.pinned (.plain (OpenSpec.ofChange digitsSizesSpec)) digitsSizesCard

/-- THE TIED CARD OF 'quipulaw16.DigitsAlike'. -/
def digitsAlikeCard : Claim7 := { stood := { row := digitsAlikeRow, standIns := [], harness := (true, "1eeeeb1fb95d8e9eb3db3bbf8996531f6b2fa83db6242408c93eacc4bbbe17d6"), looks := false }, kinds := [], alts := [], laidByText := true, laidKinds := [.data, .data, .data, .data, .pinned], laidTests := true, laidLooks := .later }
def DigitsAlikeCardSaid : Prop := Claim7.holds Tryd.pinned (.plain (OpenSpec.ofChange digitsAlikeSpec)) digitsAlikeCard

/-- THE SECOND FORM's CARD OF 'quipulaw16.DigitsPieces'. -/
def digitsPiecesUptoCard : Claim7 := { stood := { row := digitsPiecesUptoRow, standIns := [], harness := (true, "1eeeeb1fb95d8e9eb3db3bbf8996531f6b2fa83db6242408c93eacc4bbbe17d6"), looks := false }, kinds := [], alts := [], laidByText := true, laidKinds := [.data, .data, .data, .data, .pinned], laidTests := true, laidLooks := .later }
def DigitsPiecesUptoCardSaid : Prop := Claim7.holds Tryd.pinned (.plain (OpenSpec.upto digitsPiecesSpec)) digitsPiecesUptoCard

/-- THE SECOND FORM's CARD OF 'quipulaw16.DigitsExponent'. -/
def digitsExponentUptoCard : Claim7 := { stood := { row := digitsExponentUptoRow, standIns := [], harness := (true, "1eeeeb1fb95d8e9eb3db3bbf8996531f6b2fa83db6242408c93eacc4bbbe17d6"), looks := false }, kinds := [], alts := [], laidByText := true, laidKinds := [.data, .data, .data, .data, .pinned], laidTests := true, laidLooks := .later }
def DigitsExponentUptoCardSaid : Prop := Claim7.holds Tryd.pinned (.plain (OpenSpec.upto digitsExponentSpec)) digitsExponentUptoCard

/-- THE SECOND FORM's CARD OF 'quipulaw16.DigitsWhole'. -/
def digitsWholeUptoCard : Claim7 := { stood := { row := digitsWholeUptoRow, standIns := [], harness := (true, "1eeeeb1fb95d8e9eb3db3bbf8996531f6b2fa83db6242408c93eacc4bbbe17d6"), looks := false }, kinds := [], alts := [], laidByText := true, laidKinds := [.data, .data, .data, .data, .pinned], laidTests := true, laidLooks := .later }
def DigitsWholeUptoCardSaid : Prop := Claim7.holds Tryd.pinned (.plain (OpenSpec.upto digitsWholeSpec)) digitsWholeUptoCard

/-- THE SECOND FORM's CARD OF 'quipulaw16.DigitsSizes'. -/
def digitsSizesUptoCard : Claim7 := { stood := { row := digitsSizesUptoRow, standIns := [], harness := (true, "1eeeeb1fb95d8e9eb3db3bbf8996531f6b2fa83db6242408c93eacc4bbbe17d6"), looks := false }, kinds := [], alts := [], laidByText := true, laidKinds := [.data, .data, .data, .data, .pinned], laidTests := true, laidLooks := .later }
def DigitsSizesUptoCardSaid : Prop := Claim7.holds Tryd.pinned (.plain (OpenSpec.upto digitsSizesSpec)) digitsSizesUptoCard

/-- THE SECOND FORM's CARD OF 'quipulaw16.DigitsAlike'. -/
def digitsAlikeUptoCard : Claim7 := { stood := { row := digitsAlikeUptoRow, standIns := [], harness := (true, "1eeeeb1fb95d8e9eb3db3bbf8996531f6b2fa83db6242408c93eacc4bbbe17d6"), looks := false }, kinds := [], alts := [], laidByText := true, laidKinds := [.data, .data, .data, .data, .pinned], laidTests := true, laidLooks := .later }
def DigitsAlikeUptoCardSaid : Prop := Claim7.holds Tryd.pinned (.plain (OpenSpec.upto digitsAlikeSpec)) digitsAlikeUptoCard
end Rows
end Go.Proofs.YtefejkhcbelahaaDoor
