/-
  DERIVED. GIVEN WITH THE SEED: THE CARDS: each row of YtajippjknikciaaDoorRows.lean that lists a variable, with what it lists TIED to the program's text (the seventh form; the later family's looks); each row that meets fmt, with fmt's text TOLD by the authors' own Lean function (tested against real Go, not proved from fmt's source: count such statements apart). THE CARD IS WHAT COUNTS. Prove the row's statement (the work); the ties are given (YtajippjknikciaaDoorTie.lean); close each card by the builder's one call (the guide's Derived/Test/ToyasCard.lean, 'card_holds'). Laid BY PROGRAM, IN A SANDBOX (cutbox-door.mjs). By AI agents, Wed Nov 11 2026. No macro, syntax, notation, axiom, sorry.
-/
import Derived.Test.YtajippjknikciaaDoorRows
import GoSem.ClaimSeven
namespace Go.Proofs.YtajippjknikciaaDoor
namespace Rows

/-- THE TIED CARD OF 'typecaselaw04.PropsMirrors'. -/
def propsMirrorsCard : Claim7 := { stood := { row := propsMirrorsRow, standIns := [], harness := (true, "38ac1b711103461b5498d8162d0931692c59b473e2a464b6846bc35f99e40f0a"), looks := false }, kinds := [], alts := [], laidByText := true, laidKinds := [.data], laidTests := true, laidLooks := .later }
def PropsMirrorsCardSaid : Prop := Claim7.holds Tryd.pinned (.plain (OpenSpec.ofChange propsMirrorsSpec)) propsMirrorsCard

/-- THE TIED CARD OF 'typecaselaw04.PropsTells'. -/
def propsTellsCard : Claim7 := { stood := { row := propsTellsRow, standIns := [], harness := (true, "38ac1b711103461b5498d8162d0931692c59b473e2a464b6846bc35f99e40f0a"), looks := false }, kinds := [], alts := [], laidByText := true, laidKinds := [.data], laidTests := true, laidLooks := .later }
def PropsTellsCardSaid : Prop := Claim7.holds Tryd.pinned (.plain (OpenSpec.ofChange propsTellsSpec)) propsTellsCard

/-- THE TIED CARD OF 'typecaselaw04.PropsBidi'. -/
def propsBidiCard : Claim7 := { stood := { row := propsBidiRow, standIns := [], harness := (true, "38ac1b711103461b5498d8162d0931692c59b473e2a464b6846bc35f99e40f0a"), looks := false }, kinds := [], alts := [], laidByText := true, laidKinds := [.data], laidTests := true, laidLooks := .later }
def PropsBidiCardSaid : Prop := Claim7.holds Tryd.pinned (.plain (OpenSpec.ofChange propsBidiSpec)) propsBidiCard

/-- THE TIED CARD OF 'typecaselaw04.PropsRows'. -/
def propsRowsCard : Claim7 := { stood := { row := propsRowsRow, standIns := [], harness := (true, "38ac1b711103461b5498d8162d0931692c59b473e2a464b6846bc35f99e40f0a"), looks := false }, kinds := [], alts := [], laidByText := true, laidKinds := [.data], laidTests := true, laidLooks := .later }
def PropsRowsCardSaid : Prop := Claim7.holds Tryd.pinned (.plain (OpenSpec.ofChange propsRowsSpec)) propsRowsCard

/-- THE TIED CARD OF 'typecaselaw36.JoiningTells'. -/
def joiningTellsCard : Claim7 := { stood := { row := joiningTellsRow, standIns := [], harness := (true, "38ac1b711103461b5498d8162d0931692c59b473e2a464b6846bc35f99e40f0a"), looks := false }, kinds := [], alts := [], laidByText := true, laidKinds := [.data], laidTests := true, laidLooks := .later }
def JoiningTellsCardSaid : Prop := Claim7.holds Tryd.pinned (.plain (OpenSpec.ofChange joiningTellsSpec)) joiningTellsCard

/-- THE TIED CARD OF 'typecaselaw36.JoiningWindows'. -/
def joiningWindowsCard : Claim7 := { stood := { row := joiningWindowsRow, standIns := [], harness := (true, "38ac1b711103461b5498d8162d0931692c59b473e2a464b6846bc35f99e40f0a"), looks := false }, kinds := [], alts := [], laidByText := true, laidKinds := [.data], laidTests := true, laidLooks := .later }
def JoiningWindowsCardSaid : Prop := Claim7.holds Tryd.pinned (.plain (OpenSpec.ofChange joiningWindowsSpec)) joiningWindowsCard

/-- THE TIED CARD OF 'typecaselaw36.JoiningLocal'. -/
def joiningLocalCard : Claim7 := { stood := { row := joiningLocalRow, standIns := [], harness := (true, "38ac1b711103461b5498d8162d0931692c59b473e2a464b6846bc35f99e40f0a"), looks := false }, kinds := [], alts := [], laidByText := true, laidKinds := [.data], laidTests := true, laidLooks := .later }
def JoiningLocalCardSaid : Prop := Claim7.holds Tryd.pinned (.plain (OpenSpec.ofChange joiningLocalSpec)) joiningLocalCard

/-- THE TIED CARD OF 'typecaselaw36.JoiningBoth'. -/
def joiningBothCard : Claim7 := { stood := { row := joiningBothRow, standIns := [], harness := (true, "38ac1b711103461b5498d8162d0931692c59b473e2a464b6846bc35f99e40f0a"), looks := false }, kinds := [], alts := [], laidByText := true, laidKinds := [.data], laidTests := true, laidLooks := .later }
def JoiningBothCardSaid : Prop := Claim7.holds Tryd.pinned (.plain (OpenSpec.ofChange joiningBothSpec)) joiningBothCard

/-- THE TIED CARD OF 'typecaselaw23.FallbackNeeds'. -/
def fallbackNeedsCard : Claim7 := { stood := { row := fallbackNeedsRow, standIns := [], harness := (true, "38ac1b711103461b5498d8162d0931692c59b473e2a464b6846bc35f99e40f0a"), looks := false }, kinds := [], alts := [], laidByText := true, laidKinds := [.data], laidTests := true, laidLooks := .later }
def FallbackNeedsCardSaid : Prop := Claim7.holds Tryd.pinned (.plain (OpenSpec.ofChange fallbackNeedsSpec)) fallbackNeedsCard

/-- THE SECOND FORM's CARD OF 'typecaselaw04.PropsMirrors'. -/
def propsMirrorsUptoCard : Claim7 := { stood := { row := propsMirrorsUptoRow, standIns := [], harness := (true, "38ac1b711103461b5498d8162d0931692c59b473e2a464b6846bc35f99e40f0a"), looks := false }, kinds := [], alts := [], laidByText := true, laidKinds := [.data], laidTests := true, laidLooks := .later }
def PropsMirrorsUptoCardSaid : Prop := Claim7.holds Tryd.pinned (.plain (OpenSpec.upto propsMirrorsSpec)) propsMirrorsUptoCard

/-- THE SECOND FORM's CARD OF 'typecaselaw04.PropsTells'. -/
def propsTellsUptoCard : Claim7 := { stood := { row := propsTellsUptoRow, standIns := [], harness := (true, "38ac1b711103461b5498d8162d0931692c59b473e2a464b6846bc35f99e40f0a"), looks := false }, kinds := [], alts := [], laidByText := true, laidKinds := [.data], laidTests := true, laidLooks := .later }
def PropsTellsUptoCardSaid : Prop := Claim7.holds Tryd.pinned (.plain (OpenSpec.upto propsTellsSpec)) propsTellsUptoCard

/-- THE SECOND FORM's CARD OF 'typecaselaw04.PropsBidi'. -/
def propsBidiUptoCard : Claim7 := { stood := { row := propsBidiUptoRow, standIns := [], harness := (true, "38ac1b711103461b5498d8162d0931692c59b473e2a464b6846bc35f99e40f0a"), looks := false }, kinds := [], alts := [], laidByText := true, laidKinds := [.data], laidTests := true, laidLooks := .later }
def PropsBidiUptoCardSaid : Prop := Claim7.holds Tryd.pinned (.plain (OpenSpec.upto propsBidiSpec)) propsBidiUptoCard

/-- THE SECOND FORM's CARD OF 'typecaselaw04.PropsRows'. -/
def propsRowsUptoCard : Claim7 := { stood := { row := propsRowsUptoRow, standIns := [], harness := (true, "38ac1b711103461b5498d8162d0931692c59b473e2a464b6846bc35f99e40f0a"), looks := false }, kinds := [], alts := [], laidByText := true, laidKinds := [.data], laidTests := true, laidLooks := .later }
def PropsRowsUptoCardSaid : Prop := Claim7.holds Tryd.pinned (.plain (OpenSpec.upto propsRowsSpec)) propsRowsUptoCard

/-- THE SECOND FORM's CARD OF 'typecaselaw36.JoiningTells'. -/
def joiningTellsUptoCard : Claim7 := { stood := { row := joiningTellsUptoRow, standIns := [], harness := (true, "38ac1b711103461b5498d8162d0931692c59b473e2a464b6846bc35f99e40f0a"), looks := false }, kinds := [], alts := [], laidByText := true, laidKinds := [.data], laidTests := true, laidLooks := .later }
def JoiningTellsUptoCardSaid : Prop := Claim7.holds Tryd.pinned (.plain (OpenSpec.upto joiningTellsSpec)) joiningTellsUptoCard

/-- THE SECOND FORM's CARD OF 'typecaselaw36.JoiningWindows'. -/
def joiningWindowsUptoCard : Claim7 := { stood := { row := joiningWindowsUptoRow, standIns := [], harness := (true, "38ac1b711103461b5498d8162d0931692c59b473e2a464b6846bc35f99e40f0a"), looks := false }, kinds := [], alts := [], laidByText := true, laidKinds := [.data], laidTests := true, laidLooks := .later }
def JoiningWindowsUptoCardSaid : Prop := Claim7.holds Tryd.pinned (.plain (OpenSpec.upto joiningWindowsSpec)) joiningWindowsUptoCard

/-- THE SECOND FORM's CARD OF 'typecaselaw36.JoiningLocal'. -/
def joiningLocalUptoCard : Claim7 := { stood := { row := joiningLocalUptoRow, standIns := [], harness := (true, "38ac1b711103461b5498d8162d0931692c59b473e2a464b6846bc35f99e40f0a"), looks := false }, kinds := [], alts := [], laidByText := true, laidKinds := [.data], laidTests := true, laidLooks := .later }
def JoiningLocalUptoCardSaid : Prop := Claim7.holds Tryd.pinned (.plain (OpenSpec.upto joiningLocalSpec)) joiningLocalUptoCard

/-- THE SECOND FORM's CARD OF 'typecaselaw36.JoiningBoth'. -/
def joiningBothUptoCard : Claim7 := { stood := { row := joiningBothUptoRow, standIns := [], harness := (true, "38ac1b711103461b5498d8162d0931692c59b473e2a464b6846bc35f99e40f0a"), looks := false }, kinds := [], alts := [], laidByText := true, laidKinds := [.data], laidTests := true, laidLooks := .later }
def JoiningBothUptoCardSaid : Prop := Claim7.holds Tryd.pinned (.plain (OpenSpec.upto joiningBothSpec)) joiningBothUptoCard

/-- THE SECOND FORM's CARD OF 'typecaselaw23.FallbackNeeds'. -/
def fallbackNeedsUptoCard : Claim7 := { stood := { row := fallbackNeedsUptoRow, standIns := [], harness := (true, "38ac1b711103461b5498d8162d0931692c59b473e2a464b6846bc35f99e40f0a"), looks := false }, kinds := [], alts := [], laidByText := true, laidKinds := [.data], laidTests := true, laidLooks := .later }
def FallbackNeedsUptoCardSaid : Prop := Claim7.holds Tryd.pinned (.plain (OpenSpec.upto fallbackNeedsSpec)) fallbackNeedsUptoCard
end Rows
end Go.Proofs.YtajippjknikciaaDoor
