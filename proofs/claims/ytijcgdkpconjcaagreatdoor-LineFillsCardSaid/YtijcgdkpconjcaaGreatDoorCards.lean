/-
  DERIVED. GIVEN WITH THE SEED: THE CARDS: each row of YtijcgdkpconjcaaGreatDoorRows.lean that lists a variable, with what it lists TIED to the program's text (the seventh form; the later family's looks); each row that meets fmt, with fmt's text TOLD by the authors' own Lean function (tested against real Go, not proved from fmt's source: count such statements apart). THE CARD IS WHAT COUNTS. Prove the row's statement (the work); the ties are given (YtijcgdkpconjcaaGreatDoorTie.lean); close each card by the builder's one call (the guide's Derived/Test/ToyasCard.lean, 'card_holds'). Laid BY PROGRAM, IN A SANDBOX (cutbox-door.mjs). By AI agents, Wed Nov 11 2026. No macro, syntax, notation, axiom, sorry.
-/
import Derived.Test.YtijcgdkpconjcaaGreatDoorRows
import GoSem.ClaimSeven
namespace Go.Proofs.YtijcgdkpconjcaaGreatDoor
namespace Rows

/-- THE TIED CARD OF 'typecaselaw45.LineFills'. -/
def lineFillsCard : Claim7 := { stood := { row := lineFillsRow, standIns := [], harness := (true, "bede11dcbde1bd08c1272ca7f18995d2c5cb90ba8a2be35b6110681ea2719641"), looks := false }, kinds := [], alts := [], laidByText := true, laidKinds := [.data], laidTests := true, laidLooks := .later }
def LineFillsCardSaid : Prop := Claim7.holds Tryz.pinned (.plain (OpenSpec.ofChange lineFillsSpec)) lineFillsCard

/-- THE SECOND FORM's CARD OF 'typecaselaw45.LineFills'. -/
def lineFillsUptoCard : Claim7 := { stood := { row := lineFillsUptoRow, standIns := [], harness := (true, "bede11dcbde1bd08c1272ca7f18995d2c5cb90ba8a2be35b6110681ea2719641"), looks := false }, kinds := [], alts := [], laidByText := true, laidKinds := [.data], laidTests := true, laidLooks := .later }
def LineFillsUptoCardSaid : Prop := Claim7.holds Tryz.pinned (.plain (OpenSpec.upto lineFillsSpec)) lineFillsUptoCard
end Rows
end Go.Proofs.YtijcgdkpconjcaaGreatDoor
