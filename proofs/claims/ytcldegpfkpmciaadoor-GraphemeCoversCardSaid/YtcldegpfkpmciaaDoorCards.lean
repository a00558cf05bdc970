/-
  DERIVED. GIVEN WITH THE SEED: THE CARDS: each row of YtcldegpfkpmciaaDoorRows.lean that lists a variable, with what it lists TIED to the program's text (the seventh form; the later family's looks); each row that meets fmt, with fmt's text TOLD by the authors' own Lean function (tested against real Go, not proved from fmt's source: count such statements apart). THE CARD IS WHAT COUNTS. Prove the row's statement (the work); the ties are given (YtcldegpfkpmciaaDoorTie.lean); close each card by the builder's one call (the guide's Derived/Test/ToyasCard.lean, 'card_holds'). Laid BY PROGRAM, IN A SANDBOX (cutbox-door.mjs). By AI agents, Wed Nov 11 2026. No macro, syntax, notation, axiom, sorry.
-/
import Derived.Test.YtcldegpfkpmciaaDoorRows
import GoSem.ClaimSeven
namespace Go.Proofs.YtcldegpfkpmciaaDoor
namespace Rows

/-- THE TIED CARD OF 'typecaselaw07.GraphemeCuts'. -/
def graphemeCutsCard : Claim7 := { stood := { row := graphemeCutsRow, standIns := [], harness := (true, "8353bf03b71dfcbaf9896fd99db54de8277ac2e8a2e5552f5341ab82287514af"), looks := false }, kinds := [], alts := [], laidByText := true, laidKinds := [.data], laidTests := true, laidLooks := .later }
def GraphemeCutsCardSaid : Prop := Claim7.holds Tryd.pinned (.plain (OpenSpec.ofChange graphemeCutsSpec)) graphemeCutsCard

/-- THE TIED CARD OF 'typecaselaw07.GraphemeWindow'. -/
def graphemeWindowCard : Claim7 := { stood := { row := graphemeWindowRow, standIns := [], harness := (true, "8353bf03b71dfcbaf9896fd99db54de8277ac2e8a2e5552f5341ab82287514af"), looks := false }, kinds := [], alts := [], laidByText := true, laidKinds := [.data], laidTests := true, laidLooks := .later }
def GraphemeWindowCardSaid : Prop := Claim7.holds Tryd.pinned (.plain (OpenSpec.ofChange graphemeWindowSpec)) graphemeWindowCard

/-- THE TIED CARD OF 'typecaselaw07.GraphemeAlone'. -/
def graphemeAloneCard : Claim7 := { stood := { row := graphemeAloneRow, standIns := [], harness := (true, "8353bf03b71dfcbaf9896fd99db54de8277ac2e8a2e5552f5341ab82287514af"), looks := false }, kinds := [], alts := [], laidByText := true, laidKinds := [.data], laidTests := true, laidLooks := .later }
def GraphemeAloneCardSaid : Prop := Claim7.holds Tryd.pinned (.plain (OpenSpec.ofChange graphemeAloneSpec)) graphemeAloneCard

/-- THE TIED CARD OF 'typecaselaw07.GraphemeSteps'. -/
def graphemeStepsCard : Claim7 := { stood := { row := graphemeStepsRow, standIns := [], harness := (true, "8353bf03b71dfcbaf9896fd99db54de8277ac2e8a2e5552f5341ab82287514af"), looks := false }, kinds := [], alts := [], laidByText := true, laidKinds := [.data], laidTests := true, laidLooks := .later }
def GraphemeStepsCardSaid : Prop := Claim7.holds Tryd.pinned (.plain (OpenSpec.ofChange graphemeStepsSpec)) graphemeStepsCard

/-- THE TIED CARD OF 'typecaselaw07.GraphemeCovers'. -/
def graphemeCoversCard : Claim7 := { stood := { row := graphemeCoversRow, standIns := [], harness := (true, "8353bf03b71dfcbaf9896fd99db54de8277ac2e8a2e5552f5341ab82287514af"), looks := false }, kinds := [], alts := [], laidByText := true, laidKinds := [.data], laidTests := true, laidLooks := .later }
def GraphemeCoversCardSaid : Prop := Claim7.holds Tryd.pinned (.plain (OpenSpec.ofChange graphemeCoversSpec)) graphemeCoversCard

/-- THE TIED CARD OF 'typecaselaw08.WordsKinds'. -/
def wordsKindsCard : Claim7 := { stood := { row := wordsKindsRow, standIns := [], harness := (true, "8353bf03b71dfcbaf9896fd99db54de8277ac2e8a2e5552f5341ab82287514af"), looks := false }, kinds := [], alts := [], laidByText := true, laidKinds := [.data], laidTests := true, laidLooks := .later }
def WordsKindsCardSaid : Prop := Claim7.holds Tryd.pinned (.plain (OpenSpec.ofChange wordsKindsSpec)) wordsKindsCard

/-- THE TIED CARD OF 'typecaselaw08.WordsWhole'. -/
def wordsWholeCard : Claim7 := { stood := { row := wordsWholeRow, standIns := [], harness := (true, "8353bf03b71dfcbaf9896fd99db54de8277ac2e8a2e5552f5341ab82287514af"), looks := false }, kinds := [], alts := [], laidByText := true, laidKinds := [.data], laidTests := true, laidLooks := .later }
def WordsWholeCardSaid : Prop := Claim7.holds Tryd.pinned (.plain (OpenSpec.ofChange wordsWholeSpec)) wordsWholeCard

/-- THE TIED CARD OF 'typecaselaw08.WordsBounds'. -/
def wordsBoundsCard : Claim7 := { stood := { row := wordsBoundsRow, standIns := [], harness := (true, "8353bf03b71dfcbaf9896fd99db54de8277ac2e8a2e5552f5341ab82287514af"), looks := false }, kinds := [], alts := [], laidByText := true, laidKinds := [.data], laidTests := true, laidLooks := .later }
def WordsBoundsCardSaid : Prop := Claim7.holds Tryd.pinned (.plain (OpenSpec.ofChange wordsBoundsSpec)) wordsBoundsCard

/-- THE TIED CARD OF 'typecaselaw08.WordsAround'. -/
def wordsAroundCard : Claim7 := { stood := { row := wordsAroundRow, standIns := [], harness := (true, "8353bf03b71dfcbaf9896fd99db54de8277ac2e8a2e5552f5341ab82287514af"), looks := false }, kinds := [], alts := [], laidByText := true, laidKinds := [.data], laidTests := true, laidLooks := .later }
def WordsAroundCardSaid : Prop := Claim7.holds Tryd.pinned (.plain (OpenSpec.ofChange wordsAroundSpec)) wordsAroundCard

/-- THE TIED CARD OF 'typecaselaw08.WordsCover'. -/
def wordsCoverCard : Claim7 := { stood := { row := wordsCoverRow, standIns := [], harness := (true, "8353bf03b71dfcbaf9896fd99db54de8277ac2e8a2e5552f5341ab82287514af"), looks := false }, kinds := [], alts := [], laidByText := true, laidKinds := [.data], laidTests := true, laidLooks := .later }
def WordsCoverCardSaid : Prop := Claim7.holds Tryd.pinned (.plain (OpenSpec.ofChange wordsCoverSpec)) wordsCoverCard

/-- THE TIED CARD OF 'typecaselaw52.DirtyClusters'. -/
def dirtyClustersCard : Claim7 := { stood := { row := dirtyClustersRow, standIns := [], harness := (true, "8353bf03b71dfcbaf9896fd99db54de8277ac2e8a2e5552f5341ab82287514af"), looks := false }, kinds := [], alts := [], laidByText := true, laidKinds := [.data], laidTests := true, laidLooks := .later }
def DirtyClustersCardSaid : Prop := Claim7.holds Tryd.pinned (.plain (OpenSpec.ofChange dirtyClustersSpec)) dirtyClustersCard

/-- THE SECOND FORM's CARD OF 'typecaselaw07.GraphemeCuts'. -/
def graphemeCutsUptoCard : Claim7 := { stood := { row := graphemeCutsUptoRow, standIns := [], harness := (true, "8353bf03b71dfcbaf9896fd99db54de8277ac2e8a2e5552f5341ab82287514af"), looks := false }, kinds := [], alts := [], laidByText := true, laidKinds := [.data], laidTests := true, laidLooks := .later }
def GraphemeCutsUptoCardSaid : Prop := Claim7.holds Tryd.pinned (.plain (OpenSpec.upto graphemeCutsSpec)) graphemeCutsUptoCard

/-- THE SECOND FORM's CARD OF 'typecaselaw07.GraphemeWindow'. -/
def graphemeWindowUptoCard : Claim7 := { stood := { row := graphemeWindowUptoRow, standIns := [], harness := (true, "8353bf03b71dfcbaf9896fd99db54de8277ac2e8a2e5552f5341ab82287514af"), looks := false }, kinds := [], alts := [], laidByText := true, laidKinds := [.data], laidTests := true, laidLooks := .later }
def GraphemeWindowUptoCardSaid : Prop := Claim7.holds Tryd.pinned (.plain (OpenSpec.upto graphemeWindowSpec)) graphemeWindowUptoCard

/-- THE SECOND FORM's CARD OF 'typecaselaw07.GraphemeAlone'. -/
def graphemeAloneUptoCard : Claim7 := { stood := { row := graphemeAloneUptoRow, standIns := [], harness := (true, "8353bf03b71dfcbaf9896fd99db54de8277ac2e8a2e5552f5341ab82287514af"), looks := false }, kinds := [], alts := [], laidByText := true, laidKinds := [.data], laidTests := true, laidLooks := .later }
def GraphemeAloneUptoCardSaid : Prop := Claim7.holds Tryd.pinned (.plain (OpenSpec.upto graphemeAloneSpec)) graphemeAloneUptoCard

/-- THE SECOND FORM's CARD OF 'typecaselaw07.GraphemeSteps'. -/
def graphemeStepsUptoCard : Claim7 := { stood := { row := graphemeStepsUptoRow, standIns := [], harness := (true, "8353bf03b71dfcbaf9896fd99db54de8277ac2e8a2e5552f5341ab82287514af"), looks := false }, kinds := [], alts := [], laidByText := true, laidKinds := [.data], laidTests := true, laidLooks := .later }
def GraphemeStepsUptoCardSaid : Prop := Claim7.holds Tryd.pinned (.plain (OpenSpec.upto graphemeStepsSpec)) graphemeStepsUptoCard

/-- THE SECOND FORM's CARD OF 'typecaselaw07.GraphemeCovers'. -/
def graphemeCoversUptoCard : Claim7 := { stood := { row := graphemeCoversUptoRow, standIns := [], harness := (true, "8353bf03b71dfcbaf9896fd99db54de8277ac2e8a2e5552f5341ab82287514af"), looks := false }, kinds := [], alts := [], laidByText := true, laidKinds := [.data], laidTests := true, laidLooks := .later }
def GraphemeCoversUptoCardSaid : Prop := Claim7.holds Tryd.pinned (.plain (OpenSpec.upto graphemeCoversSpec)) graphemeCoversUptoCard

/-- THE SECOND FORM's CARD OF 'typecaselaw08.WordsKinds'. -/
def wordsKindsUptoCard : Claim7 := { stood := { row := wordsKindsUptoRow, standIns := [], harness := (true, "8353bf03b71dfcbaf9896fd99db54de8277ac2e8a2e5552f5341ab82287514af"), looks := false }, kinds := [], alts := [], laidByText := true, laidKinds := [.data], laidTests := true, laidLooks := .later }
def WordsKindsUptoCardSaid : Prop := Claim7.holds Tryd.pinned (.plain (OpenSpec.upto wordsKindsSpec)) wordsKindsUptoCard

/-- THE SECOND FORM's CARD OF 'typecaselaw08.WordsWhole'. -/
def wordsWholeUptoCard : Claim7 := { stood := { row := wordsWholeUptoRow, standIns := [], harness := (true, "8353bf03b71dfcbaf9896fd99db54de8277ac2e8a2e5552f5341ab82287514af"), looks := false }, kinds := [], alts := [], laidByText := true, laidKinds := [.data], laidTests := true, laidLooks := .later }
def WordsWholeUptoCardSaid : Prop := Claim7.holds Tryd.pinned (.plain (OpenSpec.upto wordsWholeSpec)) wordsWholeUptoCard

/-- THE SECOND FORM's CARD OF 'typecaselaw08.WordsBounds'. -/
def wordsBoundsUptoCard : Claim7 := { stood := { row := wordsBoundsUptoRow, standIns := [], harness := (true, "8353bf03b71dfcbaf9896fd99db54de8277ac2e8a2e5552f5341ab82287514af"), looks := false }, kinds := [], alts := [], laidByText := true, laidKinds := [.data], laidTests := true, laidLooks := .later }
def WordsBoundsUptoCardSaid : Prop := Claim7.holds Tryd.pinned (.plain (OpenSpec.upto wordsBoundsSpec)) wordsBoundsUptoCard

/-- THE SECOND FORM's CARD OF 'typecaselaw08.WordsAround'. -/
def wordsAroundUptoCard : Claim7 := { stood := { row := wordsAroundUptoRow, standIns := [], harness := (true, "8353bf03b71dfcbaf9896fd99db54de8277ac2e8a2e5552f5341ab82287514af"), looks := false }, kinds := [], alts := [], laidByText := true, laidKinds := [.data], laidTests := true, laidLooks := .later }
def WordsAroundUptoCardSaid : Prop := Claim7.holds Tryd.pinned (.plain (OpenSpec.upto wordsAroundSpec)) wordsAroundUptoCard

/-- THE SECOND FORM's CARD OF 'typecaselaw08.WordsCover'. -/
def wordsCoverUptoCard : Claim7 := { stood := { row := wordsCoverUptoRow, standIns := [], harness := (true, "8353bf03b71dfcbaf9896fd99db54de8277ac2e8a2e5552f5341ab82287514af"), looks := false }, kinds := [], alts := [], laidByText := true, laidKinds := [.data], laidTests := true, laidLooks := .later }
def WordsCoverUptoCardSaid : Prop := Claim7.holds Tryd.pinned (.plain (OpenSpec.upto wordsCoverSpec)) wordsCoverUptoCard

/-- THE SECOND FORM's CARD OF 'typecaselaw52.DirtyClusters'. -/
def dirtyClustersUptoCard : Claim7 := { stood := { row := dirtyClustersUptoRow, standIns := [], harness := (true, "8353bf03b71dfcbaf9896fd99db54de8277ac2e8a2e5552f5341ab82287514af"), looks := false }, kinds := [], alts := [], laidByText := true, laidKinds := [.data], laidTests := true, laidLooks := .later }
def DirtyClustersUptoCardSaid : Prop := Claim7.holds Tryd.pinned (.plain (OpenSpec.upto dirtyClustersSpec)) dirtyClustersUptoCard
end Rows
end Go.Proofs.YtcldegpfkpmciaaDoor
