/-
  DERIVED. GIVEN WITH THE SEED: THE CARDS: each row of YtgianjnccpbnaaaDoorRows.lean that lists a variable, with what it lists TIED to the program's text (the seventh form; the later family's looks); each row that meets fmt, with fmt's text TOLD by the authors' own Lean function (tested against real Go, not proved from fmt's source: count such statements apart). THE CARD IS WHAT COUNTS. Prove the row's statement (the work); the ties are given (YtgianjnccpbnaaaDoorTie.lean); close each card by the builder's one call (the guide's Derived/Test/ToyasCard.lean, 'card_holds'). Laid BY PROGRAM, IN A SANDBOX (cutbox-door.mjs). By AI agents, Wed Nov 11 2026. No macro, syntax, notation, axiom, sorry.
-/
import Derived.Test.YtgianjnccpbnaaaDoorRows
import GoSem.ClaimSeven
namespace Go.Proofs.YtgianjnccpbnaaaDoor
namespace Rows

/-- THE TIED CARD OF 'typecaselaw20.HyphenNil'. -/
def hyphenNilCard : Claim7 := { stood := { row := hyphenNilRow, standIns := [], harness := (true, "0ac4c8ca51503f0f12bb7cdf4cbe3d1084e34d31d81791be03d3a8ea21890a41"), looks := false }, kinds := [], alts := [], laidByText := true, laidKinds := [.data], laidTests := true, laidLooks := .later }
def HyphenNilCardSaid : Prop := Claim7.holds Tryd.pinned (.plain (OpenSpec.ofChange hyphenNilSpec)) hyphenNilCard

/-- THE TIED CARD OF 'typecaselaw20.HyphenIn'. -/
def hyphenInCard : Claim7 := { stood := { row := hyphenInRow, standIns := [], harness := (true, "0ac4c8ca51503f0f12bb7cdf4cbe3d1084e34d31d81791be03d3a8ea21890a41"), looks := false }, kinds := [], alts := [], laidByText := true, laidKinds := [.data], laidTests := true, laidLooks := .later }
def HyphenInCardSaid : Prop := Claim7.holds Tryd.pinned (.plain (OpenSpec.ofChange hyphenInSpec)) hyphenInCard

/-- THE SECOND FORM's CARD OF 'typecaselaw20.HyphenNil'. -/
def hyphenNilUptoCard : Claim7 := { stood := { row := hyphenNilUptoRow, standIns := [], harness := (true, "0ac4c8ca51503f0f12bb7cdf4cbe3d1084e34d31d81791be03d3a8ea21890a41"), looks := false }, kinds := [], alts := [], laidByText := true, laidKinds := [.data], laidTests := true, laidLooks := .later }
def HyphenNilUptoCardSaid : Prop := Claim7.holds Tryd.pinned (.plain (OpenSpec.upto hyphenNilSpec)) hyphenNilUptoCard

/-- THE SECOND FORM's CARD OF 'typecaselaw20.HyphenIn'. -/
def hyphenInUptoCard : Claim7 := { stood := { row := hyphenInUptoRow, standIns := [], harness := (true, "0ac4c8ca51503f0f12bb7cdf4cbe3d1084e34d31d81791be03d3a8ea21890a41"), looks := false }, kinds := [], alts := [], laidByText := true, laidKinds := [.data], laidTests := true, laidLooks := .later }
def HyphenInUptoCardSaid : Prop := Claim7.holds Tryd.pinned (.plain (OpenSpec.upto hyphenInSpec)) hyphenInUptoCard
end Rows
end Go.Proofs.YtgianjnccpbnaaaDoor
