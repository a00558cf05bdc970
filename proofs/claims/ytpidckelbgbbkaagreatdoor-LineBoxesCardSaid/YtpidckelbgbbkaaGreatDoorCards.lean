/-
  DERIVED. GIVEN WITH THE SEED: THE CARDS: each row of YtpidckelbgbbkaaGreatDoorRows.lean that lists a variable, with what it lists TIED to the program's text (the seventh form; the later family's looks); each row that meets fmt, with fmt's text TOLD by the authors' own Lean function (tested against real Go, not proved from fmt's source: count such statements apart). THE CARD IS WHAT COUNTS. Prove the row's statement (the work); the ties are given (YtpidckelbgbbkaaGreatDoorTie.lean); close each card by the builder's one call (the guide's Derived/Test/ToyasCard.lean, 'card_holds'). Laid BY PROGRAM, IN A SANDBOX (cutbox-door.mjs). By AI agents, Wed Nov 11 2026. No macro, syntax, notation, axiom, sorry.
-/
import Derived.Test.YtpidckelbgbbkaaGreatDoorRows
import GoSem.ClaimSeven
namespace Go.Proofs.YtpidckelbgbbkaaGreatDoor
namespace Rows

/-- THE TIED CARD OF 'typecaselaw45.LineBoxes'. -/
def lineBoxesCard : Claim7 := { stood := { row := lineBoxesRow, standIns := [], harness := (true, "f0ce4de4121895990b3088ccf32c5fb7becc71e958e1c933125481142a0f291e"), looks := false }, kinds := [], alts := [], laidByText := true, laidKinds := [.data], laidTests := true, laidLooks := .later }
def LineBoxesCardSaid : Prop := Claim7.holds Tryz.pinned (.plain (OpenSpec.ofChange lineBoxesSpec)) lineBoxesCard

/-- THE SECOND FORM's CARD OF 'typecaselaw45.LineBoxes'. -/
def lineBoxesUptoCard : Claim7 := { stood := { row := lineBoxesUptoRow, standIns := [], harness := (true, "f0ce4de4121895990b3088ccf32c5fb7becc71e958e1c933125481142a0f291e"), looks := false }, kinds := [], alts := [], laidByText := true, laidKinds := [.data], laidTests := true, laidLooks := .later }
def LineBoxesUptoCardSaid : Prop := Claim7.holds Tryz.pinned (.plain (OpenSpec.upto lineBoxesSpec)) lineBoxesUptoCard
end Rows
end Go.Proofs.YtpidckelbgbbkaaGreatDoor
