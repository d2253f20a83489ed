/-
  DERIVED. GIVEN WITH THE SEED: THE CARDS: each row of YtfnahgmajdjepaaDoorRows.lean that lists a variable, with what it lists TIED to the program's text (the seventh form; the later family's looks); each row that meets fmt, with fmt's text TOLD by the authors' own Lean function (tested against real Go, not proved from fmt's source: count such statements apart). THE CARD IS WHAT COUNTS. Prove the row's statement (the work); the ties are given (YtfnahgmajdjepaaDoorTie.lean); close each card by the builder's one call (the guide's Derived/Test/ToyasCard.lean, 'card_holds'). Laid BY PROGRAM, IN A SANDBOX (cutbox-door.mjs). By AI agents, Wed Nov 11 2026. No macro, syntax, notation, axiom, sorry.
-/
import Derived.Test.YtfnahgmajdjepaaDoorRows
import GoSem.ClaimSeven
namespace Go.Proofs.YtfnahgmajdjepaaDoor
namespace Rows

/-- THE TIED CARD OF 'phoenixlaw15.SpacePlays'. -/
def spacePlaysCard : Claim7 := { stood := { row := spacePlaysRow, standIns := [], harness := (true, "2ee6df1f5c1b984f321c783de54816afd295dcc79b3acd91be3af0cb40e6a58f"), looks := true }, kinds := [], alts := [], laidByText := true, laidKinds := [.sentinel, .sentinel, .sentinel, .sentinel, .sentinel, .sentinel, .sentinel, .sentinel, .sentinel, .sentinel, .sentinel, .sentinel, .sentinel, .sentinel, .sentinel, .sentinel, .sentinel, .sentinel], laidTests := true, laidLooks := .later }
def SpacePlaysCardSaid : Prop := Claim7.holds Tryd.pinned (.plain (OpenSpec.ofChange spacePlaysSpec)) spacePlaysCard

/-- THE TIED CARD OF 'phoenixlaw15.SpaceSums'. -/
def spaceSumsCard : Claim7 := { stood := { row := spaceSumsRow, standIns := [], harness := (true, "2ee6df1f5c1b984f321c783de54816afd295dcc79b3acd91be3af0cb40e6a58f"), looks := true }, kinds := [], alts := [], laidByText := true, laidKinds := [.sentinel, .sentinel, .sentinel, .sentinel, .sentinel, .sentinel, .sentinel, .sentinel, .sentinel, .sentinel, .sentinel, .sentinel, .sentinel, .sentinel, .sentinel, .sentinel, .sentinel, .sentinel], laidTests := true, laidLooks := .later }
def SpaceSumsCardSaid : Prop := Claim7.holds Tryd.pinned (.plain (OpenSpec.ofChange spaceSumsSpec)) spaceSumsCard

/-- THE TIED CARD OF 'phoenixlaw15.SpaceErrors'. -/
def spaceErrorsCard : Claim7 := { stood := { row := spaceErrorsRow, standIns := [], harness := (true, "2ee6df1f5c1b984f321c783de54816afd295dcc79b3acd91be3af0cb40e6a58f"), looks := true }, kinds := [], alts := [], laidByText := true, laidKinds := [.sentinel, .sentinel, .sentinel, .sentinel, .sentinel, .sentinel, .sentinel, .sentinel, .sentinel, .sentinel, .sentinel, .sentinel, .sentinel, .sentinel, .sentinel, .sentinel, .sentinel, .sentinel], laidTests := true, laidLooks := .later }
def SpaceErrorsCardSaid : Prop := Claim7.holds Tryd.pinned (.plain (OpenSpec.ofChange spaceErrorsSpec)) spaceErrorsCard

/-- THE TIED CARD OF 'phoenixlaw15.SpaceKeeps'. -/
def spaceKeepsCard : Claim7 := { stood := { row := spaceKeepsRow, standIns := [], harness := (true, "2ee6df1f5c1b984f321c783de54816afd295dcc79b3acd91be3af0cb40e6a58f"), looks := true }, kinds := [], alts := [], laidByText := true, laidKinds := [.sentinel, .sentinel, .sentinel, .sentinel, .sentinel, .sentinel, .sentinel, .sentinel, .sentinel, .sentinel, .sentinel, .sentinel, .sentinel, .sentinel, .sentinel, .sentinel, .sentinel, .sentinel], laidTests := true, laidLooks := .later }
def SpaceKeepsCardSaid : Prop := Claim7.holds Tryd.pinned (.plain (OpenSpec.ofChange spaceKeepsSpec)) spaceKeepsCard

/-- THE SECOND FORM's CARD OF 'phoenixlaw15.SpacePlays'. -/
def spacePlaysUptoCard : Claim7 := { stood := { row := spacePlaysUptoRow, standIns := [], harness := (true, "2ee6df1f5c1b984f321c783de54816afd295dcc79b3acd91be3af0cb40e6a58f"), looks := true }, kinds := [], alts := [], laidByText := true, laidKinds := [.sentinel, .sentinel, .sentinel, .sentinel, .sentinel, .sentinel, .sentinel, .sentinel, .sentinel, .sentinel, .sentinel, .sentinel, .sentinel, .sentinel, .sentinel, .sentinel, .sentinel, .sentinel], laidTests := true, laidLooks := .later }
def SpacePlaysUptoCardSaid : Prop := Claim7.holds Tryd.pinned (.plain (OpenSpec.upto spacePlaysSpec)) spacePlaysUptoCard

/-- THE SECOND FORM's CARD OF 'phoenixlaw15.SpaceSums'. -/
def spaceSumsUptoCard : Claim7 := { stood := { row := spaceSumsUptoRow, standIns := [], harness := (true, "2ee6df1f5c1b984f321c783de54816afd295dcc79b3acd91be3af0cb40e6a58f"), looks := true }, kinds := [], alts := [], laidByText := true, laidKinds := [.sentinel, .sentinel, .sentinel, .sentinel, .sentinel, .sentinel, .sentinel, .sentinel, .sentinel, .sentinel, .sentinel, .sentinel, .sentinel, .sentinel, .sentinel, .sentinel, .sentinel, .sentinel], laidTests := true, laidLooks := .later }
def SpaceSumsUptoCardSaid : Prop := Claim7.holds Tryd.pinned (.plain (OpenSpec.upto spaceSumsSpec)) spaceSumsUptoCard

/-- THE SECOND FORM's CARD OF 'phoenixlaw15.SpaceErrors'. -/
def spaceErrorsUptoCard : Claim7 := { stood := { row := spaceErrorsUptoRow, standIns := [], harness := (true, "2ee6df1f5c1b984f321c783de54816afd295dcc79b3acd91be3af0cb40e6a58f"), looks := true }, kinds := [], alts := [], laidByText := true, laidKinds := [.sentinel, .sentinel, .sentinel, .sentinel, .sentinel, .sentinel, .sentinel, .sentinel, .sentinel, .sentinel, .sentinel, .sentinel, .sentinel, .sentinel, .sentinel, .sentinel, .sentinel, .sentinel], laidTests := true, laidLooks := .later }
def SpaceErrorsUptoCardSaid : Prop := Claim7.holds Tryd.pinned (.plain (OpenSpec.upto spaceErrorsSpec)) spaceErrorsUptoCard

/-- THE SECOND FORM's CARD OF 'phoenixlaw15.SpaceKeeps'. -/
def spaceKeepsUptoCard : Claim7 := { stood := { row := spaceKeepsUptoRow, standIns := [], harness := (true, "2ee6df1f5c1b984f321c783de54816afd295dcc79b3acd91be3af0cb40e6a58f"), looks := true }, kinds := [], alts := [], laidByText := true, laidKinds := [.sentinel, .sentinel, .sentinel, .sentinel, .sentinel, .sentinel, .sentinel, .sentinel, .sentinel, .sentinel, .sentinel, .sentinel, .sentinel, .sentinel, .sentinel, .sentinel, .sentinel, .sentinel], laidTests := true, laidLooks := .later }
def SpaceKeepsUptoCardSaid : Prop := Claim7.holds Tryd.pinned (.plain (OpenSpec.upto spaceKeepsSpec)) spaceKeepsUptoCard
end Rows
end Go.Proofs.YtfnahgmajdjepaaDoor
