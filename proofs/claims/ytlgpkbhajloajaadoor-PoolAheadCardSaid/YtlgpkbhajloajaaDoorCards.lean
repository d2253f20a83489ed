/-
  DERIVED. GIVEN WITH THE SEED: THE CARDS: each row of YtlgpkbhajloajaaDoorRows.lean that lists a variable, with what it lists TIED to the program's text (the seventh form; the later family's looks); each row that meets fmt, with fmt's text TOLD by the authors' own Lean function (tested against real Go, not proved from fmt's source: count such statements apart). THE CARD IS WHAT COUNTS. Prove the row's statement (the work); the ties are given (YtlgpkbhajloajaaDoorTie.lean); close each card by the builder's one call (the guide's Derived/Test/ToyasCard.lean, 'card_holds'). Laid BY PROGRAM, IN A SANDBOX (cutbox-door.mjs). By AI agents, Wed Nov 11 2026. No macro, syntax, notation, axiom, sorry.
-/
import Derived.Test.YtlgpkbhajloajaaDoorRows
import GoSem.ClaimSeven
namespace Go.Proofs.YtlgpkbhajloajaaDoor
namespace Rows

/-- THE TIED CARD OF 'phoenixlaw11.PoolFrames'. -/
def poolFramesCard : Claim7 := { stood := { row := poolFramesRow, standIns := [], harness := (true, "f973041692242330d91c0bfeb2cc100d9e1f08fdb4dd65dcc0b0ad25ae59687d"), looks := true }, kinds := [], alts := [], laidByText := true, laidKinds := [.sentinel, .sentinel, .sentinel, .sentinel], laidTests := true, laidLooks := .later }
def PoolFramesCardSaid : Prop := Claim7.holds Tryd.pinned (.plain (OpenSpec.ofChange poolFramesSpec)) poolFramesCard

/-- THE TIED CARD OF 'phoenixlaw11.PoolErrors'. -/
def poolErrorsCard : Claim7 := { stood := { row := poolErrorsRow, standIns := [], harness := (true, "f973041692242330d91c0bfeb2cc100d9e1f08fdb4dd65dcc0b0ad25ae59687d"), looks := true }, kinds := [], alts := [], laidByText := true, laidKinds := [.sentinel, .sentinel, .sentinel, .sentinel, .sentinel, .sentinel, .sentinel, .sentinel, .sentinel, .sentinel, .sentinel, .sentinel, .sentinel, .sentinel, .sentinel, .sentinel, .sentinel, .sentinel], laidTests := true, laidLooks := .later }
def PoolErrorsCardSaid : Prop := Claim7.holds Tryd.pinned (.plain (OpenSpec.ofChange poolErrorsSpec)) poolErrorsCard

/-- THE TIED CARD OF 'phoenixlaw11.PoolDirty'. -/
def poolDirtyCard : Claim7 := { stood := { row := poolDirtyRow, standIns := [], harness := (true, "f973041692242330d91c0bfeb2cc100d9e1f08fdb4dd65dcc0b0ad25ae59687d"), looks := true }, kinds := [], alts := [], laidByText := true, laidKinds := [.sentinel, .sentinel, .sentinel, .sentinel, .sentinel], laidTests := true, laidLooks := .later }
def PoolDirtyCardSaid : Prop := Claim7.holds Tryd.pinned (.plain (OpenSpec.ofChange poolDirtySpec)) poolDirtyCard

/-- THE TIED CARD OF 'phoenixlaw11.PoolAhead'. -/
def poolAheadCard : Claim7 := { stood := { row := poolAheadRow, standIns := [], harness := (true, "f973041692242330d91c0bfeb2cc100d9e1f08fdb4dd65dcc0b0ad25ae59687d"), looks := true }, kinds := [], alts := [], laidByText := true, laidKinds := [.sentinel, .sentinel, .sentinel, .sentinel, .sentinel], laidTests := true, laidLooks := .later }
def PoolAheadCardSaid : Prop := Claim7.holds Tryd.pinned (.plain (OpenSpec.ofChange poolAheadSpec)) poolAheadCard

/-- THE SECOND FORM's CARD OF 'phoenixlaw11.PoolFrames'. -/
def poolFramesUptoCard : Claim7 := { stood := { row := poolFramesUptoRow, standIns := [], harness := (true, "f973041692242330d91c0bfeb2cc100d9e1f08fdb4dd65dcc0b0ad25ae59687d"), looks := true }, kinds := [], alts := [], laidByText := true, laidKinds := [.sentinel, .sentinel, .sentinel, .sentinel], laidTests := true, laidLooks := .later }
def PoolFramesUptoCardSaid : Prop := Claim7.holds Tryd.pinned (.plain (OpenSpec.upto poolFramesSpec)) poolFramesUptoCard

/-- THE SECOND FORM's CARD OF 'phoenixlaw11.PoolErrors'. -/
def poolErrorsUptoCard : Claim7 := { stood := { row := poolErrorsUptoRow, standIns := [], harness := (true, "f973041692242330d91c0bfeb2cc100d9e1f08fdb4dd65dcc0b0ad25ae59687d"), looks := true }, kinds := [], alts := [], laidByText := true, laidKinds := [.sentinel, .sentinel, .sentinel, .sentinel, .sentinel, .sentinel, .sentinel, .sentinel, .sentinel, .sentinel, .sentinel, .sentinel, .sentinel, .sentinel, .sentinel, .sentinel, .sentinel, .sentinel], laidTests := true, laidLooks := .later }
def PoolErrorsUptoCardSaid : Prop := Claim7.holds Tryd.pinned (.plain (OpenSpec.upto poolErrorsSpec)) poolErrorsUptoCard

/-- THE SECOND FORM's CARD OF 'phoenixlaw11.PoolDirty'. -/
def poolDirtyUptoCard : Claim7 := { stood := { row := poolDirtyUptoRow, standIns := [], harness := (true, "f973041692242330d91c0bfeb2cc100d9e1f08fdb4dd65dcc0b0ad25ae59687d"), looks := true }, kinds := [], alts := [], laidByText := true, laidKinds := [.sentinel, .sentinel, .sentinel, .sentinel, .sentinel], laidTests := true, laidLooks := .later }
def PoolDirtyUptoCardSaid : Prop := Claim7.holds Tryd.pinned (.plain (OpenSpec.upto poolDirtySpec)) poolDirtyUptoCard

/-- THE SECOND FORM's CARD OF 'phoenixlaw11.PoolAhead'. -/
def poolAheadUptoCard : Claim7 := { stood := { row := poolAheadUptoRow, standIns := [], harness := (true, "f973041692242330d91c0bfeb2cc100d9e1f08fdb4dd65dcc0b0ad25ae59687d"), looks := true }, kinds := [], alts := [], laidByText := true, laidKinds := [.sentinel, .sentinel, .sentinel, .sentinel, .sentinel], laidTests := true, laidLooks := .later }
def PoolAheadUptoCardSaid : Prop := Claim7.holds Tryd.pinned (.plain (OpenSpec.upto poolAheadSpec)) poolAheadUptoCard
end Rows
end Go.Proofs.YtlgpkbhajloajaaDoor
