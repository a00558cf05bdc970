/-
  DERIVED. GIVEN WITH THE SEED: THE CARDS: each row of YtefajgfhdnhmmaaDoorRows.lean that lists a variable, with what it lists TIED to the program's text (the seventh form; the later family's looks); each row that meets fmt, with fmt's text TOLD by the authors' own Lean function (tested against real Go, not proved from fmt's source: count such statements apart). THE CARD IS WHAT COUNTS. Prove the row's statement (the work); the ties are given (YtefajgfhdnhmmaaDoorTie.lean); close each card by the builder's one call (the guide's Derived/Test/ToyasCard.lean, 'card_holds'). Laid BY PROGRAM, IN A SANDBOX (cutbox-door.mjs). By AI agents, Wed Nov 11 2026. No macro, syntax, notation, axiom, sorry.
-/
import Derived.Test.YtefajgfhdnhmmaaDoorRows
import GoSem.ClaimSeven
namespace Go.Proofs.YtefajgfhdnhmmaaDoor
namespace Rows

/-- THE TIED CARD OF 'typecaselaw08.WordsKinds'. -/
def wordsKindsCard : Claim7 := { stood := { row := wordsKindsRow, standIns := [], harness := (true, "311e89b62cdff6df0a4b2a99168da414208211ac6761d77394169697a1b01bc2"), looks := false }, kinds := [], alts := [], laidByText := true, laidKinds := [.data], laidTests := true, laidLooks := .later }
def WordsKindsCardSaid : Prop := Claim7.holds Tryd.pinned (.plain (OpenSpec.ofChange wordsKindsSpec)) wordsKindsCard

/-- THE TIED CARD OF 'typecaselaw08.WordsWhole'. -/
def wordsWholeCard : Claim7 := { stood := { row := wordsWholeRow, standIns := [], harness := (true, "311e89b62cdff6df0a4b2a99168da414208211ac6761d77394169697a1b01bc2"), looks := false }, kinds := [], alts := [], laidByText := true, laidKinds := [.data], laidTests := true, laidLooks := .later }
def WordsWholeCardSaid : Prop := Claim7.holds Tryd.pinned (.plain (OpenSpec.ofChange wordsWholeSpec)) wordsWholeCard

/-- THE TIED CARD OF 'typecaselaw08.WordsBounds'. -/
def wordsBoundsCard : Claim7 := { stood := { row := wordsBoundsRow, standIns := [], harness := (true, "311e89b62cdff6df0a4b2a99168da414208211ac6761d77394169697a1b01bc2"), looks := false }, kinds := [], alts := [], laidByText := true, laidKinds := [.data], laidTests := true, laidLooks := .later }
def WordsBoundsCardSaid : Prop := Claim7.holds Tryd.pinned (.plain (OpenSpec.ofChange wordsBoundsSpec)) wordsBoundsCard

/-- THE TIED CARD OF 'typecaselaw08.WordsAround'. -/
def wordsAroundCard : Claim7 := { stood := { row := wordsAroundRow, standIns := [], harness := (true, "311e89b62cdff6df0a4b2a99168da414208211ac6761d77394169697a1b01bc2"), looks := false }, kinds := [], alts := [], laidByText := true, laidKinds := [.data], laidTests := true, laidLooks := .later }
def WordsAroundCardSaid : Prop := Claim7.holds Tryd.pinned (.plain (OpenSpec.ofChange wordsAroundSpec)) wordsAroundCard

/-- THE TIED CARD OF 'typecaselaw08.WordsCover'. -/
def wordsCoverCard : Claim7 := { stood := { row := wordsCoverRow, standIns := [], harness := (true, "311e89b62cdff6df0a4b2a99168da414208211ac6761d77394169697a1b01bc2"), looks := false }, kinds := [], alts := [], laidByText := true, laidKinds := [.data], laidTests := true, laidLooks := .later }
def WordsCoverCardSaid : Prop := Claim7.holds Tryd.pinned (.plain (OpenSpec.ofChange wordsCoverSpec)) wordsCoverCard

/-- THE TIED CARD OF 'typecaselaw52.DirtyClusters'. -/
def dirtyClustersCard : Claim7 := { stood := { row := dirtyClustersRow, standIns := [], harness := (true, "311e89b62cdff6df0a4b2a99168da414208211ac6761d77394169697a1b01bc2"), looks := false }, kinds := [], alts := [], laidByText := true, laidKinds := [.data], laidTests := true, laidLooks := .later }
def DirtyClustersCardSaid : Prop := Claim7.holds Tryd.pinned (.plain (OpenSpec.ofChange dirtyClustersSpec)) dirtyClustersCard

/-- THE TIED CARD OF 'typecaselaw23.FallbackOf'. -/
def fallbackOfCard : Claim7 := { stood := { row := fallbackOfRow, standIns := [], harness := (true, "311e89b62cdff6df0a4b2a99168da414208211ac6761d77394169697a1b01bc2"), looks := false }, kinds := [], alts := [], laidByText := true, laidKinds := [.data], laidTests := true, laidLooks := .later }
def FallbackOfCardSaid : Prop := Claim7.holds Tryd.pinned (.plain (OpenSpec.ofChange fallbackOfSpec)) fallbackOfCard

/-- THE TIED CARD OF 'typecaselaw23.FallbackOne'. -/
def fallbackOneCard : Claim7 := { stood := { row := fallbackOneRow, standIns := [], harness := (true, "311e89b62cdff6df0a4b2a99168da414208211ac6761d77394169697a1b01bc2"), looks := false }, kinds := [], alts := [], laidByText := true, laidKinds := [.data], laidTests := true, laidLooks := .later }
def FallbackOneCardSaid : Prop := Claim7.holds Tryd.pinned (.plain (OpenSpec.ofChange fallbackOneSpec)) fallbackOneCard

/-- THE TIED CARD OF 'typecaselaw23.FallbackParts'. -/
def fallbackPartsCard : Claim7 := { stood := { row := fallbackPartsRow, standIns := [], harness := (true, "311e89b62cdff6df0a4b2a99168da414208211ac6761d77394169697a1b01bc2"), looks := false }, kinds := [], alts := [], laidByText := true, laidKinds := [.data], laidTests := true, laidLooks := .later }
def FallbackPartsCardSaid : Prop := Claim7.holds Tryd.pinned (.plain (OpenSpec.ofChange fallbackPartsSpec)) fallbackPartsCard

/-- THE TIED CARD OF 'typecaselaw52.DirtyParas'. -/
def dirtyParasCard : Claim7 := { stood := { row := dirtyParasRow, standIns := [], harness := (true, "311e89b62cdff6df0a4b2a99168da414208211ac6761d77394169697a1b01bc2"), looks := false }, kinds := [], alts := [], laidByText := true, laidKinds := [.data], laidTests := true, laidLooks := .later }
def DirtyParasCardSaid : Prop := Claim7.holds Tryd.pinned (.plain (OpenSpec.ofChange dirtyParasSpec)) dirtyParasCard

/-- THE TIED CARD OF 'typecaselaw52.DirtyKeeps'. -/
def dirtyKeepsCard : Claim7 := { stood := { row := dirtyKeepsRow, standIns := [], harness := (true, "311e89b62cdff6df0a4b2a99168da414208211ac6761d77394169697a1b01bc2"), looks := false }, kinds := [], alts := [], laidByText := true, laidKinds := [.data], laidTests := true, laidLooks := .later }
def DirtyKeepsCardSaid : Prop := Claim7.holds Tryd.pinned (.plain (OpenSpec.ofChange dirtyKeepsSpec)) dirtyKeepsCard

/-- THE TIED CARD OF 'typecaselaw52.DirtyForms'. -/
def dirtyFormsCard : Claim7 := { stood := { row := dirtyFormsRow, standIns := [], harness := (true, "311e89b62cdff6df0a4b2a99168da414208211ac6761d77394169697a1b01bc2"), looks := false }, kinds := [], alts := [], laidByText := true, laidKinds := [.data], laidTests := true, laidLooks := .later }
def DirtyFormsCardSaid : Prop := Claim7.holds Tryd.pinned (.plain (OpenSpec.ofChange dirtyFormsSpec)) dirtyFormsCard

/-- THE SECOND FORM's CARD OF 'typecaselaw08.WordsKinds'. -/
def wordsKindsUptoCard : Claim7 := { stood := { row := wordsKindsUptoRow, standIns := [], harness := (true, "311e89b62cdff6df0a4b2a99168da414208211ac6761d77394169697a1b01bc2"), looks := false }, kinds := [], alts := [], laidByText := true, laidKinds := [.data], laidTests := true, laidLooks := .later }
def WordsKindsUptoCardSaid : Prop := Claim7.holds Tryd.pinned (.plain (OpenSpec.upto wordsKindsSpec)) wordsKindsUptoCard

/-- THE SECOND FORM's CARD OF 'typecaselaw08.WordsWhole'. -/
def wordsWholeUptoCard : Claim7 := { stood := { row := wordsWholeUptoRow, standIns := [], harness := (true, "311e89b62cdff6df0a4b2a99168da414208211ac6761d77394169697a1b01bc2"), looks := false }, kinds := [], alts := [], laidByText := true, laidKinds := [.data], laidTests := true, laidLooks := .later }
def WordsWholeUptoCardSaid : Prop := Claim7.holds Tryd.pinned (.plain (OpenSpec.upto wordsWholeSpec)) wordsWholeUptoCard

/-- THE SECOND FORM's CARD OF 'typecaselaw08.WordsBounds'. -/
def wordsBoundsUptoCard : Claim7 := { stood := { row := wordsBoundsUptoRow, standIns := [], harness := (true, "311e89b62cdff6df0a4b2a99168da414208211ac6761d77394169697a1b01bc2"), looks := false }, kinds := [], alts := [], laidByText := true, laidKinds := [.data], laidTests := true, laidLooks := .later }
def WordsBoundsUptoCardSaid : Prop := Claim7.holds Tryd.pinned (.plain (OpenSpec.upto wordsBoundsSpec)) wordsBoundsUptoCard

/-- THE SECOND FORM's CARD OF 'typecaselaw08.WordsAround'. -/
def wordsAroundUptoCard : Claim7 := { stood := { row := wordsAroundUptoRow, standIns := [], harness := (true, "311e89b62cdff6df0a4b2a99168da414208211ac6761d77394169697a1b01bc2"), looks := false }, kinds := [], alts := [], laidByText := true, laidKinds := [.data], laidTests := true, laidLooks := .later }
def WordsAroundUptoCardSaid : Prop := Claim7.holds Tryd.pinned (.plain (OpenSpec.upto wordsAroundSpec)) wordsAroundUptoCard

/-- THE SECOND FORM's CARD OF 'typecaselaw08.WordsCover'. -/
def wordsCoverUptoCard : Claim7 := { stood := { row := wordsCoverUptoRow, standIns := [], harness := (true, "311e89b62cdff6df0a4b2a99168da414208211ac6761d77394169697a1b01bc2"), looks := false }, kinds := [], alts := [], laidByText := true, laidKinds := [.data], laidTests := true, laidLooks := .later }
def WordsCoverUptoCardSaid : Prop := Claim7.holds Tryd.pinned (.plain (OpenSpec.upto wordsCoverSpec)) wordsCoverUptoCard

/-- THE SECOND FORM's CARD OF 'typecaselaw52.DirtyClusters'. -/
def dirtyClustersUptoCard : Claim7 := { stood := { row := dirtyClustersUptoRow, standIns := [], harness := (true, "311e89b62cdff6df0a4b2a99168da414208211ac6761d77394169697a1b01bc2"), looks := false }, kinds := [], alts := [], laidByText := true, laidKinds := [.data], laidTests := true, laidLooks := .later }
def DirtyClustersUptoCardSaid : Prop := Claim7.holds Tryd.pinned (.plain (OpenSpec.upto dirtyClustersSpec)) dirtyClustersUptoCard

/-- THE SECOND FORM's CARD OF 'typecaselaw23.FallbackOf'. -/
def fallbackOfUptoCard : Claim7 := { stood := { row := fallbackOfUptoRow, standIns := [], harness := (true, "311e89b62cdff6df0a4b2a99168da414208211ac6761d77394169697a1b01bc2"), looks := false }, kinds := [], alts := [], laidByText := true, laidKinds := [.data], laidTests := true, laidLooks := .later }
def FallbackOfUptoCardSaid : Prop := Claim7.holds Tryd.pinned (.plain (OpenSpec.upto fallbackOfSpec)) fallbackOfUptoCard

/-- THE SECOND FORM's CARD OF 'typecaselaw23.FallbackOne'. -/
def fallbackOneUptoCard : Claim7 := { stood := { row := fallbackOneUptoRow, standIns := [], harness := (true, "311e89b62cdff6df0a4b2a99168da414208211ac6761d77394169697a1b01bc2"), looks := false }, kinds := [], alts := [], laidByText := true, laidKinds := [.data], laidTests := true, laidLooks := .later }
def FallbackOneUptoCardSaid : Prop := Claim7.holds Tryd.pinned (.plain (OpenSpec.upto fallbackOneSpec)) fallbackOneUptoCard

/-- THE SECOND FORM's CARD OF 'typecaselaw23.FallbackParts'. -/
def fallbackPartsUptoCard : Claim7 := { stood := { row := fallbackPartsUptoRow, standIns := [], harness := (true, "311e89b62cdff6df0a4b2a99168da414208211ac6761d77394169697a1b01bc2"), looks := false }, kinds := [], alts := [], laidByText := true, laidKinds := [.data], laidTests := true, laidLooks := .later }
def FallbackPartsUptoCardSaid : Prop := Claim7.holds Tryd.pinned (.plain (OpenSpec.upto fallbackPartsSpec)) fallbackPartsUptoCard

/-- THE SECOND FORM's CARD OF 'typecaselaw52.DirtyParas'. -/
def dirtyParasUptoCard : Claim7 := { stood := { row := dirtyParasUptoRow, standIns := [], harness := (true, "311e89b62cdff6df0a4b2a99168da414208211ac6761d77394169697a1b01bc2"), looks := false }, kinds := [], alts := [], laidByText := true, laidKinds := [.data], laidTests := true, laidLooks := .later }
def DirtyParasUptoCardSaid : Prop := Claim7.holds Tryd.pinned (.plain (OpenSpec.upto dirtyParasSpec)) dirtyParasUptoCard

/-- THE SECOND FORM's CARD OF 'typecaselaw52.DirtyKeeps'. -/
def dirtyKeepsUptoCard : Claim7 := { stood := { row := dirtyKeepsUptoRow, standIns := [], harness := (true, "311e89b62cdff6df0a4b2a99168da414208211ac6761d77394169697a1b01bc2"), looks := false }, kinds := [], alts := [], laidByText := true, laidKinds := [.data], laidTests := true, laidLooks := .later }
def DirtyKeepsUptoCardSaid : Prop := Claim7.holds Tryd.pinned (.plain (OpenSpec.upto dirtyKeepsSpec)) dirtyKeepsUptoCard

/-- THE SECOND FORM's CARD OF 'typecaselaw52.DirtyForms'. -/
def dirtyFormsUptoCard : Claim7 := { stood := { row := dirtyFormsUptoRow, standIns := [], harness := (true, "311e89b62cdff6df0a4b2a99168da414208211ac6761d77394169697a1b01bc2"), looks := false }, kinds := [], alts := [], laidByText := true, laidKinds := [.data], laidTests := true, laidLooks := .later }
def DirtyFormsUptoCardSaid : Prop := Claim7.holds Tryd.pinned (.plain (OpenSpec.upto dirtyFormsSpec)) dirtyFormsUptoCard
end Rows
end Go.Proofs.YtefajgfhdnhmmaaDoor
