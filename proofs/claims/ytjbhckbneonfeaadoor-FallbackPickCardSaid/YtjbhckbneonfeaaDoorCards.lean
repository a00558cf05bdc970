/-
  DERIVED. GIVEN WITH THE SEED: THE CARDS: each row of YtjbhckbneonfeaaDoorRows.lean that lists a variable, with what it lists TIED to the program's text (the seventh form; the later family's looks); each row that meets fmt, with fmt's text TOLD by the authors' own Lean function (tested against real Go, not proved from fmt's source: count such statements apart). THE CARD IS WHAT COUNTS. Prove the row's statement (the work); the ties are given (YtjbhckbneonfeaaDoorTie.lean); close each card by the builder's one call (the guide's Derived/Test/ToyasCard.lean, 'card_holds'). Laid BY PROGRAM, IN A SANDBOX (cutbox-door.mjs). By AI agents, Wed Nov 11 2026. No macro, syntax, notation, axiom, sorry.
-/
import Derived.Test.YtjbhckbneonfeaaDoorRows
import GoSem.ClaimSeven
namespace Go.Proofs.YtjbhckbneonfeaaDoor
namespace Rows

/-- THE TIED CARD OF 'typecaselaw23.FallbackHas'. -/
def fallbackHasCard : Claim7 := { stood := { row := fallbackHasRow, standIns := [], harness := (true, "4332b7b78c9efd0c804ecd4d697e8e6b77d5f1fec2af975bdbfc94cd9ac46d2a"), looks := false }, kinds := [], alts := [], laidByText := true, laidKinds := [.data], laidTests := true, laidLooks := .later }
def FallbackHasCardSaid : Prop := Claim7.holds Tryd.pinned (.plain (OpenSpec.ofChange fallbackHasSpec)) fallbackHasCard

/-- THE TIED CARD OF 'typecaselaw23.FallbackPick'. -/
def fallbackPickCard : Claim7 := { stood := { row := fallbackPickRow, standIns := [], harness := (true, "4332b7b78c9efd0c804ecd4d697e8e6b77d5f1fec2af975bdbfc94cd9ac46d2a"), looks := false }, kinds := [], alts := [], laidByText := true, laidKinds := [.data], laidTests := true, laidLooks := .later }
def FallbackPickCardSaid : Prop := Claim7.holds Tryd.pinned (.plain (OpenSpec.ofChange fallbackPickSpec)) fallbackPickCard

/-- THE SECOND FORM's CARD OF 'typecaselaw23.FallbackHas'. -/
def fallbackHasUptoCard : Claim7 := { stood := { row := fallbackHasUptoRow, standIns := [], harness := (true, "4332b7b78c9efd0c804ecd4d697e8e6b77d5f1fec2af975bdbfc94cd9ac46d2a"), looks := false }, kinds := [], alts := [], laidByText := true, laidKinds := [.data], laidTests := true, laidLooks := .later }
def FallbackHasUptoCardSaid : Prop := Claim7.holds Tryd.pinned (.plain (OpenSpec.upto fallbackHasSpec)) fallbackHasUptoCard

/-- THE SECOND FORM's CARD OF 'typecaselaw23.FallbackPick'. -/
def fallbackPickUptoCard : Claim7 := { stood := { row := fallbackPickUptoRow, standIns := [], harness := (true, "4332b7b78c9efd0c804ecd4d697e8e6b77d5f1fec2af975bdbfc94cd9ac46d2a"), looks := false }, kinds := [], alts := [], laidByText := true, laidKinds := [.data], laidTests := true, laidLooks := .later }
def FallbackPickUptoCardSaid : Prop := Claim7.holds Tryd.pinned (.plain (OpenSpec.upto fallbackPickSpec)) fallbackPickUptoCard
end Rows
end Go.Proofs.YtjbhckbneonfeaaDoor
