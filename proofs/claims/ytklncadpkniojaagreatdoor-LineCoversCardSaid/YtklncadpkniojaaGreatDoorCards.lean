/-
  DERIVED. GIVEN WITH THE SEED: THE CARDS: each row of YtklncadpkniojaaGreatDoorRows.lean that lists a variable, with what it lists TIED to the program's text (the seventh form; the later family's looks); each row that meets fmt, with fmt's text TOLD by the authors' own Lean function (tested against real Go, not proved from fmt's source: count such statements apart). THE CARD IS WHAT COUNTS. Prove the row's statement (the work); the ties are given (YtklncadpkniojaaGreatDoorTie.lean); close each card by the builder's one call (the guide's Derived/Test/ToyasCard.lean, 'card_holds'). Laid BY PROGRAM, IN A SANDBOX (cutbox-door.mjs). By AI agents, Wed Nov 11 2026. No macro, syntax, notation, axiom, sorry.
-/
import Derived.Test.YtklncadpkniojaaGreatDoorRows
import GoSem.ClaimSeven
namespace Go.Proofs.YtklncadpkniojaaGreatDoor
namespace Rows

/-- THE TIED CARD OF 'typecaselaw45.LineCovers'. -/
def lineCoversCard : Claim7 := { stood := { row := lineCoversRow, standIns := [], harness := (true, "70fbbe856d91b125f0c93b0afbd54a240f21b82f0dc672a7b3e300cfa5878691"), looks := false }, kinds := [], alts := [], laidByText := true, laidKinds := [.data], laidTests := true, laidLooks := .later }
def LineCoversCardSaid : Prop := Claim7.holds Tryz.pinned (.plain (OpenSpec.ofChange lineCoversSpec)) lineCoversCard

/-- THE SECOND FORM's CARD OF 'typecaselaw45.LineCovers'. -/
def lineCoversUptoCard : Claim7 := { stood := { row := lineCoversUptoRow, standIns := [], harness := (true, "70fbbe856d91b125f0c93b0afbd54a240f21b82f0dc672a7b3e300cfa5878691"), looks := false }, kinds := [], alts := [], laidByText := true, laidKinds := [.data], laidTests := true, laidLooks := .later }
def LineCoversUptoCardSaid : Prop := Claim7.holds Tryz.pinned (.plain (OpenSpec.upto lineCoversSpec)) lineCoversUptoCard
end Rows
end Go.Proofs.YtklncadpkniojaaGreatDoor
