/-
  DERIVED. GIVEN WITH THE SEED: THE CARDS: each row of YtmbgeeiidpllcaaDoorRows.lean that lists a variable, with what it lists TIED to the program's text (the seventh form; the later family's looks); each row that meets fmt, with fmt's text TOLD by the authors' own Lean function (tested against real Go, not proved from fmt's source: count such statements apart). THE CARD IS WHAT COUNTS. Prove the row's statement (the work); the ties are given (YtmbgeeiidpllcaaDoorTie.lean); close each card by the builder's one call (the guide's Derived/Test/ToyasCard.lean, 'card_holds'). Laid BY PROGRAM, IN A SANDBOX (cutbox-door.mjs). By AI agents, Wed Nov 11 2026. No macro, syntax, notation, axiom, sorry.
-/
import Derived.Test.YtmbgeeiidpllcaaDoorRows
import GoSem.ClaimSeven
namespace Go.Proofs.YtmbgeeiidpllcaaDoor
namespace Rows

/-- THE TIED CARD OF 'typecaselaw52.DirtyBreaks'. -/
def dirtyBreaksCard : Claim7 := { stood := { row := dirtyBreaksRow, standIns := [], harness := (true, "301ebdd8b7d6255589f71d20ce8977424c849bceccc4719b33b3285992749d3a"), looks := false }, kinds := [], alts := [], laidByText := true, laidKinds := [.data], laidTests := true, laidLooks := .later }
def DirtyBreaksCardSaid : Prop := Claim7.holds Tryd.pinned (.plain (OpenSpec.ofChange dirtyBreaksSpec)) dirtyBreaksCard

/-- THE TIED CARD OF 'typecaselaw52.DirtyHolds'. -/
def dirtyHoldsCard : Claim7 := { stood := { row := dirtyHoldsRow, standIns := [], harness := (true, "301ebdd8b7d6255589f71d20ce8977424c849bceccc4719b33b3285992749d3a"), looks := false }, kinds := [], alts := [], laidByText := true, laidKinds := [.data], laidTests := true, laidLooks := .later }
def DirtyHoldsCardSaid : Prop := Claim7.holds Tryd.pinned (.plain (OpenSpec.ofChange dirtyHoldsSpec)) dirtyHoldsCard

/-- THE SECOND FORM's CARD OF 'typecaselaw52.DirtyBreaks'. -/
def dirtyBreaksUptoCard : Claim7 := { stood := { row := dirtyBreaksUptoRow, standIns := [], harness := (true, "301ebdd8b7d6255589f71d20ce8977424c849bceccc4719b33b3285992749d3a"), looks := false }, kinds := [], alts := [], laidByText := true, laidKinds := [.data], laidTests := true, laidLooks := .later }
def DirtyBreaksUptoCardSaid : Prop := Claim7.holds Tryd.pinned (.plain (OpenSpec.upto dirtyBreaksSpec)) dirtyBreaksUptoCard

/-- THE SECOND FORM's CARD OF 'typecaselaw52.DirtyHolds'. -/
def dirtyHoldsUptoCard : Claim7 := { stood := { row := dirtyHoldsUptoRow, standIns := [], harness := (true, "301ebdd8b7d6255589f71d20ce8977424c849bceccc4719b33b3285992749d3a"), looks := false }, kinds := [], alts := [], laidByText := true, laidKinds := [.data], laidTests := true, laidLooks := .later }
def DirtyHoldsUptoCardSaid : Prop := Claim7.holds Tryd.pinned (.plain (OpenSpec.upto dirtyHoldsSpec)) dirtyHoldsUptoCard
end Rows
end Go.Proofs.YtmbgeeiidpllcaaDoor
