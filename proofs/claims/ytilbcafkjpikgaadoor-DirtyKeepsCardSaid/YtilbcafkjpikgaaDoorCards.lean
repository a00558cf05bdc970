/-
  DERIVED. GIVEN WITH THE SEED: THE CARDS: each row of YtilbcafkjpikgaaDoorRows.lean that lists a variable, with what it lists TIED to the program's text (the seventh form; the later family's looks); each row that meets fmt, with fmt's text TOLD by the authors' own Lean function (tested against real Go, not proved from fmt's source: count such statements apart). THE CARD IS WHAT COUNTS. Prove the row's statement (the work); the ties are given (YtilbcafkjpikgaaDoorTie.lean); close each card by the builder's one call (the guide's Derived/Test/ToyasCard.lean, 'card_holds'). Laid BY PROGRAM, IN A SANDBOX (cutbox-door.mjs). By AI agents, Wed Nov 11 2026. No macro, syntax, notation, axiom, sorry.
-/
import Derived.Test.YtilbcafkjpikgaaDoorRows
import GoSem.ClaimSeven
namespace Go.Proofs.YtilbcafkjpikgaaDoor
namespace Rows

/-- THE TIED CARD OF 'typecaselaw52.DirtyParas'. -/
def dirtyParasCard : Claim7 := { stood := { row := dirtyParasRow, standIns := [], harness := (true, "6bb5db960c50dc8a794a5dcd7577d8fa0119612446cca16629bc2b7053cdb79f"), looks := false }, kinds := [], alts := [], laidByText := true, laidKinds := [.data], laidTests := true, laidLooks := .later }
def DirtyParasCardSaid : Prop := Claim7.holds Tryd.pinned (.plain (OpenSpec.ofChange dirtyParasSpec)) dirtyParasCard

/-- THE TIED CARD OF 'typecaselaw52.DirtyKeeps'. -/
def dirtyKeepsCard : Claim7 := { stood := { row := dirtyKeepsRow, standIns := [], harness := (true, "6bb5db960c50dc8a794a5dcd7577d8fa0119612446cca16629bc2b7053cdb79f"), looks := false }, kinds := [], alts := [], laidByText := true, laidKinds := [.data], laidTests := true, laidLooks := .later }
def DirtyKeepsCardSaid : Prop := Claim7.holds Tryd.pinned (.plain (OpenSpec.ofChange dirtyKeepsSpec)) dirtyKeepsCard

/-- THE TIED CARD OF 'typecaselaw52.DirtyForms'. -/
def dirtyFormsCard : Claim7 := { stood := { row := dirtyFormsRow, standIns := [], harness := (true, "6bb5db960c50dc8a794a5dcd7577d8fa0119612446cca16629bc2b7053cdb79f"), looks := false }, kinds := [], alts := [], laidByText := true, laidKinds := [.data], laidTests := true, laidLooks := .later }
def DirtyFormsCardSaid : Prop := Claim7.holds Tryd.pinned (.plain (OpenSpec.ofChange dirtyFormsSpec)) dirtyFormsCard

/-- THE TIED CARD OF 'typecaselaw52.DirtyClusters'. -/
def dirtyClustersCard : Claim7 := { stood := { row := dirtyClustersRow, standIns := [], harness := (true, "6bb5db960c50dc8a794a5dcd7577d8fa0119612446cca16629bc2b7053cdb79f"), looks := false }, kinds := [], alts := [], laidByText := true, laidKinds := [.data], laidTests := true, laidLooks := .later }
def DirtyClustersCardSaid : Prop := Claim7.holds Tryd.pinned (.plain (OpenSpec.ofChange dirtyClustersSpec)) dirtyClustersCard

/-- THE SECOND FORM's CARD OF 'typecaselaw52.DirtyParas'. -/
def dirtyParasUptoCard : Claim7 := { stood := { row := dirtyParasUptoRow, standIns := [], harness := (true, "6bb5db960c50dc8a794a5dcd7577d8fa0119612446cca16629bc2b7053cdb79f"), looks := false }, kinds := [], alts := [], laidByText := true, laidKinds := [.data], laidTests := true, laidLooks := .later }
def DirtyParasUptoCardSaid : Prop := Claim7.holds Tryd.pinned (.plain (OpenSpec.upto dirtyParasSpec)) dirtyParasUptoCard

/-- THE SECOND FORM's CARD OF 'typecaselaw52.DirtyKeeps'. -/
def dirtyKeepsUptoCard : Claim7 := { stood := { row := dirtyKeepsUptoRow, standIns := [], harness := (true, "6bb5db960c50dc8a794a5dcd7577d8fa0119612446cca16629bc2b7053cdb79f"), looks := false }, kinds := [], alts := [], laidByText := true, laidKinds := [.data], laidTests := true, laidLooks := .later }
def DirtyKeepsUptoCardSaid : Prop := Claim7.holds Tryd.pinned (.plain (OpenSpec.upto dirtyKeepsSpec)) dirtyKeepsUptoCard

/-- THE SECOND FORM's CARD OF 'typecaselaw52.DirtyForms'. -/
def dirtyFormsUptoCard : Claim7 := { stood := { row := dirtyFormsUptoRow, standIns := [], harness := (true, "6bb5db960c50dc8a794a5dcd7577d8fa0119612446cca16629bc2b7053cdb79f"), looks := false }, kinds := [], alts := [], laidByText := true, laidKinds := [.data], laidTests := true, laidLooks := .later }
def DirtyFormsUptoCardSaid : Prop := Claim7.holds Tryd.pinned (.plain (OpenSpec.upto dirtyFormsSpec)) dirtyFormsUptoCard

/-- THE SECOND FORM's CARD OF 'typecaselaw52.DirtyClusters'. -/
def dirtyClustersUptoCard : Claim7 := { stood := { row := dirtyClustersUptoRow, standIns := [], harness := (true, "6bb5db960c50dc8a794a5dcd7577d8fa0119612446cca16629bc2b7053cdb79f"), looks := false }, kinds := [], alts := [], laidByText := true, laidKinds := [.data], laidTests := true, laidLooks := .later }
def DirtyClustersUptoCardSaid : Prop := Claim7.holds Tryd.pinned (.plain (OpenSpec.upto dirtyClustersSpec)) dirtyClustersUptoCard
end Rows
end Go.Proofs.YtilbcafkjpikgaaDoor
