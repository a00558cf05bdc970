/-
  DERIVED. GIVEN WITH THE SEED: THE CARDS: each row of YtanfcfppmpabpaaDoorRows.lean that lists a variable, with what it lists TIED to the program's text (the seventh form; the later family's looks); each row that meets fmt, with fmt's text TOLD by the authors' own Lean function (tested against real Go, not proved from fmt's source: count such statements apart). THE CARD IS WHAT COUNTS. Prove the row's statement (the work); the ties are given (YtanfcfppmpabpaaDoorTie.lean); close each card by the builder's one call (the guide's Derived/Test/ToyasCard.lean, 'card_holds'). Laid BY PROGRAM, IN A SANDBOX (cutbox-door.mjs). By AI agents, Wed Nov 11 2026. No macro, syntax, notation, axiom, sorry.
-/
import Derived.Test.YtanfcfppmpabpaaDoorRows
import GoSem.ClaimSeven
namespace Go.Proofs.YtanfcfppmpabpaaDoor
namespace Rows

/-- THE TIED CARD OF 'typecaselaw10.BaseParas'. -/
def baseParasCard : Claim7 := { stood := { row := baseParasRow, standIns := [], harness := (true, "b52c5e0abd16c6e1bc9234ca29964c4a71141dbd418f7dc39e509295470e18fa"), looks := false }, kinds := [], alts := [], laidByText := true, laidKinds := [.data], laidTests := true, laidLooks := .later }
def BaseParasCardSaid : Prop := Claim7.holds Tryd.pinned (.plain (OpenSpec.ofChange baseParasSpec)) baseParasCard

/-- THE TIED CARD OF 'typecaselaw10.BaseMatches'. -/
def baseMatchesCard : Claim7 := { stood := { row := baseMatchesRow, standIns := [], harness := (true, "b52c5e0abd16c6e1bc9234ca29964c4a71141dbd418f7dc39e509295470e18fa"), looks := false }, kinds := [], alts := [], laidByText := true, laidKinds := [.data], laidTests := true, laidLooks := .later }
def BaseMatchesCardSaid : Prop := Claim7.holds Tryd.pinned (.plain (OpenSpec.ofChange baseMatchesSpec)) baseMatchesCard

/-- THE TIED CARD OF 'typecaselaw10.BaseLevels'. -/
def baseLevelsCard : Claim7 := { stood := { row := baseLevelsRow, standIns := [], harness := (true, "b52c5e0abd16c6e1bc9234ca29964c4a71141dbd418f7dc39e509295470e18fa"), looks := false }, kinds := [], alts := [], laidByText := true, laidKinds := [.data], laidTests := true, laidLooks := .later }
def BaseLevelsCardSaid : Prop := Claim7.holds Tryd.pinned (.plain (OpenSpec.ofChange baseLevelsSpec)) baseLevelsCard

/-- THE TIED CARD OF 'typecaselaw10.BaseCovers'. -/
def baseCoversCard : Claim7 := { stood := { row := baseCoversRow, standIns := [], harness := (true, "b52c5e0abd16c6e1bc9234ca29964c4a71141dbd418f7dc39e509295470e18fa"), looks := false }, kinds := [], alts := [], laidByText := true, laidKinds := [.data], laidTests := true, laidLooks := .later }
def BaseCoversCardSaid : Prop := Claim7.holds Tryd.pinned (.plain (OpenSpec.ofChange baseCoversSpec)) baseCoversCard

/-- THE TIED CARD OF 'typecaselaw10.BaseNests'. -/
def baseNestsCard : Claim7 := { stood := { row := baseNestsRow, standIns := [], harness := (true, "b52c5e0abd16c6e1bc9234ca29964c4a71141dbd418f7dc39e509295470e18fa"), looks := false }, kinds := [], alts := [], laidByText := true, laidKinds := [.data], laidTests := true, laidLooks := .later }
def BaseNestsCardSaid : Prop := Claim7.holds Tryd.pinned (.plain (OpenSpec.ofChange baseNestsSpec)) baseNestsCard

/-- THE TIED CARD OF 'typecaselaw10.BaseHides'. -/
def baseHidesCard : Claim7 := { stood := { row := baseHidesRow, standIns := [], harness := (true, "b52c5e0abd16c6e1bc9234ca29964c4a71141dbd418f7dc39e509295470e18fa"), looks := false }, kinds := [], alts := [], laidByText := true, laidKinds := [.data], laidTests := true, laidLooks := .later }
def BaseHidesCardSaid : Prop := Claim7.holds Tryd.pinned (.plain (OpenSpec.ofChange baseHidesSpec)) baseHidesCard

/-- THE TIED CARD OF 'typecaselaw52.DirtyParas'. -/
def dirtyParasCard : Claim7 := { stood := { row := dirtyParasRow, standIns := [], harness := (true, "b52c5e0abd16c6e1bc9234ca29964c4a71141dbd418f7dc39e509295470e18fa"), looks := false }, kinds := [], alts := [], laidByText := true, laidKinds := [.data], laidTests := true, laidLooks := .later }
def DirtyParasCardSaid : Prop := Claim7.holds Tryd.pinned (.plain (OpenSpec.ofChange dirtyParasSpec)) dirtyParasCard

/-- THE TIED CARD OF 'typecaselaw52.DirtyKeeps'. -/
def dirtyKeepsCard : Claim7 := { stood := { row := dirtyKeepsRow, standIns := [], harness := (true, "b52c5e0abd16c6e1bc9234ca29964c4a71141dbd418f7dc39e509295470e18fa"), looks := false }, kinds := [], alts := [], laidByText := true, laidKinds := [.data], laidTests := true, laidLooks := .later }
def DirtyKeepsCardSaid : Prop := Claim7.holds Tryd.pinned (.plain (OpenSpec.ofChange dirtyKeepsSpec)) dirtyKeepsCard

/-- THE TIED CARD OF 'typecaselaw52.DirtyForms'. -/
def dirtyFormsCard : Claim7 := { stood := { row := dirtyFormsRow, standIns := [], harness := (true, "b52c5e0abd16c6e1bc9234ca29964c4a71141dbd418f7dc39e509295470e18fa"), looks := false }, kinds := [], alts := [], laidByText := true, laidKinds := [.data], laidTests := true, laidLooks := .later }
def DirtyFormsCardSaid : Prop := Claim7.holds Tryd.pinned (.plain (OpenSpec.ofChange dirtyFormsSpec)) dirtyFormsCard

/-- THE SECOND FORM's CARD OF 'typecaselaw10.BaseParas'. -/
def baseParasUptoCard : Claim7 := { stood := { row := baseParasUptoRow, standIns := [], harness := (true, "b52c5e0abd16c6e1bc9234ca29964c4a71141dbd418f7dc39e509295470e18fa"), looks := false }, kinds := [], alts := [], laidByText := true, laidKinds := [.data], laidTests := true, laidLooks := .later }
def BaseParasUptoCardSaid : Prop := Claim7.holds Tryd.pinned (.plain (OpenSpec.upto baseParasSpec)) baseParasUptoCard

/-- THE SECOND FORM's CARD OF 'typecaselaw10.BaseMatches'. -/
def baseMatchesUptoCard : Claim7 := { stood := { row := baseMatchesUptoRow, standIns := [], harness := (true, "b52c5e0abd16c6e1bc9234ca29964c4a71141dbd418f7dc39e509295470e18fa"), looks := false }, kinds := [], alts := [], laidByText := true, laidKinds := [.data], laidTests := true, laidLooks := .later }
def BaseMatchesUptoCardSaid : Prop := Claim7.holds Tryd.pinned (.plain (OpenSpec.upto baseMatchesSpec)) baseMatchesUptoCard

/-- THE SECOND FORM's CARD OF 'typecaselaw10.BaseLevels'. -/
def baseLevelsUptoCard : Claim7 := { stood := { row := baseLevelsUptoRow, standIns := [], harness := (true, "b52c5e0abd16c6e1bc9234ca29964c4a71141dbd418f7dc39e509295470e18fa"), looks := false }, kinds := [], alts := [], laidByText := true, laidKinds := [.data], laidTests := true, laidLooks := .later }
def BaseLevelsUptoCardSaid : Prop := Claim7.holds Tryd.pinned (.plain (OpenSpec.upto baseLevelsSpec)) baseLevelsUptoCard

/-- THE SECOND FORM's CARD OF 'typecaselaw10.BaseCovers'. -/
def baseCoversUptoCard : Claim7 := { stood := { row := baseCoversUptoRow, standIns := [], harness := (true, "b52c5e0abd16c6e1bc9234ca29964c4a71141dbd418f7dc39e509295470e18fa"), looks := false }, kinds := [], alts := [], laidByText := true, laidKinds := [.data], laidTests := true, laidLooks := .later }
def BaseCoversUptoCardSaid : Prop := Claim7.holds Tryd.pinned (.plain (OpenSpec.upto baseCoversSpec)) baseCoversUptoCard

/-- THE SECOND FORM's CARD OF 'typecaselaw10.BaseNests'. -/
def baseNestsUptoCard : Claim7 := { stood := { row := baseNestsUptoRow, standIns := [], harness := (true, "b52c5e0abd16c6e1bc9234ca29964c4a71141dbd418f7dc39e509295470e18fa"), looks := false }, kinds := [], alts := [], laidByText := true, laidKinds := [.data], laidTests := true, laidLooks := .later }
def BaseNestsUptoCardSaid : Prop := Claim7.holds Tryd.pinned (.plain (OpenSpec.upto baseNestsSpec)) baseNestsUptoCard

/-- THE SECOND FORM's CARD OF 'typecaselaw10.BaseHides'. -/
def baseHidesUptoCard : Claim7 := { stood := { row := baseHidesUptoRow, standIns := [], harness := (true, "b52c5e0abd16c6e1bc9234ca29964c4a71141dbd418f7dc39e509295470e18fa"), looks := false }, kinds := [], alts := [], laidByText := true, laidKinds := [.data], laidTests := true, laidLooks := .later }
def BaseHidesUptoCardSaid : Prop := Claim7.holds Tryd.pinned (.plain (OpenSpec.upto baseHidesSpec)) baseHidesUptoCard

/-- THE SECOND FORM's CARD OF 'typecaselaw52.DirtyParas'. -/
def dirtyParasUptoCard : Claim7 := { stood := { row := dirtyParasUptoRow, standIns := [], harness := (true, "b52c5e0abd16c6e1bc9234ca29964c4a71141dbd418f7dc39e509295470e18fa"), looks := false }, kinds := [], alts := [], laidByText := true, laidKinds := [.data], laidTests := true, laidLooks := .later }
def DirtyParasUptoCardSaid : Prop := Claim7.holds Tryd.pinned (.plain (OpenSpec.upto dirtyParasSpec)) dirtyParasUptoCard

/-- THE SECOND FORM's CARD OF 'typecaselaw52.DirtyKeeps'. -/
def dirtyKeepsUptoCard : Claim7 := { stood := { row := dirtyKeepsUptoRow, standIns := [], harness := (true, "b52c5e0abd16c6e1bc9234ca29964c4a71141dbd418f7dc39e509295470e18fa"), looks := false }, kinds := [], alts := [], laidByText := true, laidKinds := [.data], laidTests := true, laidLooks := .later }
def DirtyKeepsUptoCardSaid : Prop := Claim7.holds Tryd.pinned (.plain (OpenSpec.upto dirtyKeepsSpec)) dirtyKeepsUptoCard

/-- THE SECOND FORM's CARD OF 'typecaselaw52.DirtyForms'. -/
def dirtyFormsUptoCard : Claim7 := { stood := { row := dirtyFormsUptoRow, standIns := [], harness := (true, "b52c5e0abd16c6e1bc9234ca29964c4a71141dbd418f7dc39e509295470e18fa"), looks := false }, kinds := [], alts := [], laidByText := true, laidKinds := [.data], laidTests := true, laidLooks := .later }
def DirtyFormsUptoCardSaid : Prop := Claim7.holds Tryd.pinned (.plain (OpenSpec.upto dirtyFormsSpec)) dirtyFormsUptoCard
end Rows
end Go.Proofs.YtanfcfppmpabpaaDoor
