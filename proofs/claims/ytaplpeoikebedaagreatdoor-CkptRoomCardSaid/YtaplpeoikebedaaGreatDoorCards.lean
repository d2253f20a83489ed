/-
  DERIVED. GIVEN WITH THE SEED: THE CARDS: each row of YtaplpeoikebedaaGreatDoorRows.lean that lists a variable, with what it lists TIED to the program's text (the seventh form; the later family's looks); each row that meets fmt, with fmt's text TOLD by the authors' own Lean function (tested against real Go, not proved from fmt's source: count such statements apart). THE CARD IS WHAT COUNTS. Prove the row's statement (the work); the ties are given (YtaplpeoikebedaaGreatDoorTie.lean); close each card by the builder's one call (the guide's Derived/Test/ToyasCard.lean, 'card_holds'). Laid BY PROGRAM, IN A SANDBOX (cutbox-door.mjs). By AI agents, Wed Nov 11 2026. No macro, syntax, notation, axiom, sorry.
-/
import Derived.Test.YtaplpeoikebedaaGreatDoorRows
import GoSem.ClaimSeven
namespace Go.Proofs.YtaplpeoikebedaaGreatDoor
namespace Rows

/-- THE TIED CARD OF 'phoenixlaw17.ForwardRoom'. -/
def forwardRoomCard : Claim7 := { stood := { row := forwardRoomRow, standIns := [], harness := (true, "3f929ad2f65dbfeb90cc299acd79fc021bc01e2d2813fdadbea8d3b0b000a647"), looks := true }, kinds := [], alts := [], laidByText := true, laidKinds := [.sentinel, .sentinel, .sentinel, .sentinel, .sentinel, .sentinel, .sentinel, .sentinel, .sentinel, .sentinel, .sentinel, .sentinel, .sentinel, .sentinel, .sentinel, .sentinel, .sentinel, .sentinel], laidTests := true, laidLooks := .later }
def ForwardRoomCardSaid : Prop := Claim7.holds Tryz.pinned (.plain (OpenSpec.ofChange forwardRoomSpec)) forwardRoomCard

/-- THE TIED CARD OF 'phoenixlaw17.ForwardRecords'. -/
def forwardRecordsCard : Claim7 := { stood := { row := forwardRecordsRow, standIns := [], harness := (true, "3f929ad2f65dbfeb90cc299acd79fc021bc01e2d2813fdadbea8d3b0b000a647"), looks := true }, kinds := [], alts := [], laidByText := true, laidKinds := [.sentinel, .sentinel, .sentinel, .sentinel, .sentinel, .sentinel, .sentinel, .sentinel, .sentinel, .sentinel, .sentinel, .sentinel, .sentinel, .sentinel, .sentinel, .sentinel, .sentinel, .sentinel], laidTests := true, laidLooks := .later }
def ForwardRecordsCardSaid : Prop := Claim7.holds Tryz.pinned (.plain (OpenSpec.ofChange forwardRecordsSpec)) forwardRecordsCard

/-- THE TIED CARD OF 'phoenixlaw17.ForwardWaits'. -/
def forwardWaitsCard : Claim7 := { stood := { row := forwardWaitsRow, standIns := [], harness := (true, "3f929ad2f65dbfeb90cc299acd79fc021bc01e2d2813fdadbea8d3b0b000a647"), looks := true }, kinds := [], alts := [], laidByText := true, laidKinds := [.sentinel, .sentinel, .sentinel, .sentinel, .sentinel, .sentinel, .sentinel, .sentinel, .sentinel, .sentinel, .sentinel, .sentinel, .sentinel, .sentinel, .sentinel, .sentinel, .sentinel, .sentinel], laidTests := true, laidLooks := .later }
def ForwardWaitsCardSaid : Prop := Claim7.holds Tryz.pinned (.plain (OpenSpec.ofChange forwardWaitsSpec)) forwardWaitsCard

/-- THE TIED CARD OF 'phoenixlaw18.BackValues'. -/
def backValuesCard : Claim7 := { stood := { row := backValuesRow, standIns := [], harness := (true, "3f929ad2f65dbfeb90cc299acd79fc021bc01e2d2813fdadbea8d3b0b000a647"), looks := true }, kinds := [], alts := [], laidByText := true, laidKinds := [.sentinel, .sentinel, .sentinel, .sentinel, .sentinel, .sentinel, .sentinel, .sentinel, .sentinel, .sentinel, .sentinel, .sentinel, .sentinel, .sentinel, .sentinel, .sentinel, .sentinel, .sentinel], laidTests := true, laidLooks := .later }
def BackValuesCardSaid : Prop := Claim7.holds Tryz.pinned (.plain (OpenSpec.ofChange backValuesSpec)) backValuesCard

/-- THE TIED CARD OF 'phoenixlaw18.BackRoom'. -/
def backRoomCard : Claim7 := { stood := { row := backRoomRow, standIns := [], harness := (true, "3f929ad2f65dbfeb90cc299acd79fc021bc01e2d2813fdadbea8d3b0b000a647"), looks := true }, kinds := [], alts := [], laidByText := true, laidKinds := [.sentinel, .sentinel, .sentinel, .sentinel, .sentinel, .sentinel, .sentinel, .sentinel, .sentinel, .sentinel, .sentinel, .sentinel, .sentinel, .sentinel, .sentinel, .sentinel, .sentinel, .sentinel], laidTests := true, laidLooks := .later }
def BackRoomCardSaid : Prop := Claim7.holds Tryz.pinned (.plain (OpenSpec.ofChange backRoomSpec)) backRoomCard

/-- THE TIED CARD OF 'phoenixlaw18.BackTwice'. -/
def backTwiceCard : Claim7 := { stood := { row := backTwiceRow, standIns := [], harness := (true, "3f929ad2f65dbfeb90cc299acd79fc021bc01e2d2813fdadbea8d3b0b000a647"), looks := true }, kinds := [], alts := [], laidByText := true, laidKinds := [.sentinel, .sentinel, .sentinel, .sentinel, .sentinel, .sentinel, .sentinel, .sentinel, .sentinel, .sentinel, .sentinel, .sentinel, .sentinel, .sentinel, .sentinel, .sentinel, .sentinel, .sentinel], laidTests := true, laidLooks := .later }
def BackTwiceCardSaid : Prop := Claim7.holds Tryz.pinned (.plain (OpenSpec.ofChange backTwiceSpec)) backTwiceCard

/-- THE TIED CARD OF 'phoenixlaw18.BackFull'. -/
def backFullCard : Claim7 := { stood := { row := backFullRow, standIns := [], harness := (true, "3f929ad2f65dbfeb90cc299acd79fc021bc01e2d2813fdadbea8d3b0b000a647"), looks := true }, kinds := [], alts := [], laidByText := true, laidKinds := [.sentinel, .sentinel, .sentinel, .sentinel, .sentinel, .sentinel, .sentinel, .sentinel, .sentinel, .sentinel, .sentinel, .sentinel, .sentinel, .sentinel, .sentinel, .sentinel, .sentinel, .sentinel], laidTests := true, laidLooks := .later }
def BackFullCardSaid : Prop := Claim7.holds Tryz.pinned (.plain (OpenSpec.ofChange backFullSpec)) backFullCard

/-- THE TIED CARD OF 'phoenixlaw19.CkptRoom'. -/
def ckptRoomCard : Claim7 := { stood := { row := ckptRoomRow, standIns := [], harness := (true, "3f929ad2f65dbfeb90cc299acd79fc021bc01e2d2813fdadbea8d3b0b000a647"), looks := true }, kinds := [], alts := [], laidByText := true, laidKinds := [.sentinel, .sentinel, .sentinel, .sentinel, .sentinel, .sentinel, .sentinel, .sentinel, .sentinel, .sentinel, .sentinel, .sentinel, .sentinel, .sentinel, .sentinel, .sentinel, .sentinel, .sentinel], laidTests := true, laidLooks := .later }
def CkptRoomCardSaid : Prop := Claim7.holds Tryz.pinned (.plain (OpenSpec.ofChange ckptRoomSpec)) ckptRoomCard

/-- THE TIED CARD OF 'phoenixlaw19.CkptPages'. -/
def ckptPagesCard : Claim7 := { stood := { row := ckptPagesRow, standIns := [], harness := (true, "3f929ad2f65dbfeb90cc299acd79fc021bc01e2d2813fdadbea8d3b0b000a647"), looks := true }, kinds := [], alts := [], laidByText := true, laidKinds := [.sentinel, .sentinel, .sentinel, .sentinel, .sentinel, .sentinel, .sentinel, .sentinel, .sentinel, .sentinel, .sentinel, .sentinel, .sentinel, .sentinel, .sentinel, .sentinel, .sentinel, .sentinel], laidTests := true, laidLooks := .later }
def CkptPagesCardSaid : Prop := Claim7.holds Tryz.pinned (.plain (OpenSpec.ofChange ckptPagesSpec)) ckptPagesCard

/-- THE TIED CARD OF 'phoenixlaw19.CkptSpeaks'. -/
def ckptSpeaksCard : Claim7 := { stood := { row := ckptSpeaksRow, standIns := [], harness := (true, "3f929ad2f65dbfeb90cc299acd79fc021bc01e2d2813fdadbea8d3b0b000a647"), looks := true }, kinds := [], alts := [], laidByText := true, laidKinds := [.sentinel, .sentinel, .sentinel, .sentinel, .sentinel, .sentinel, .sentinel, .sentinel, .sentinel, .sentinel, .sentinel, .sentinel, .sentinel, .sentinel, .sentinel, .sentinel, .sentinel, .sentinel], laidTests := true, laidLooks := .later }
def CkptSpeaksCardSaid : Prop := Claim7.holds Tryz.pinned (.plain (OpenSpec.ofChange ckptSpeaksSpec)) ckptSpeaksCard

/-- THE TIED CARD OF 'phoenixlaw19.CkptResets'. -/
def ckptResetsCard : Claim7 := { stood := { row := ckptResetsRow, standIns := [], harness := (true, "3f929ad2f65dbfeb90cc299acd79fc021bc01e2d2813fdadbea8d3b0b000a647"), looks := true }, kinds := [], alts := [], laidByText := true, laidKinds := [.sentinel, .sentinel, .sentinel, .sentinel, .sentinel, .sentinel, .sentinel, .sentinel, .sentinel, .sentinel, .sentinel, .sentinel, .sentinel, .sentinel, .sentinel, .sentinel, .sentinel, .sentinel], laidTests := true, laidLooks := .later }
def CkptResetsCardSaid : Prop := Claim7.holds Tryz.pinned (.plain (OpenSpec.ofChange ckptResetsSpec)) ckptResetsCard

/-- THE SECOND FORM's CARD OF 'phoenixlaw17.ForwardRoom'. -/
def forwardRoomUptoCard : Claim7 := { stood := { row := forwardRoomUptoRow, standIns := [], harness := (true, "3f929ad2f65dbfeb90cc299acd79fc021bc01e2d2813fdadbea8d3b0b000a647"), looks := true }, kinds := [], alts := [], laidByText := true, laidKinds := [.sentinel, .sentinel, .sentinel, .sentinel, .sentinel, .sentinel, .sentinel, .sentinel, .sentinel, .sentinel, .sentinel, .sentinel, .sentinel, .sentinel, .sentinel, .sentinel, .sentinel, .sentinel], laidTests := true, laidLooks := .later }
def ForwardRoomUptoCardSaid : Prop := Claim7.holds Tryz.pinned (.plain (OpenSpec.upto forwardRoomSpec)) forwardRoomUptoCard

/-- THE SECOND FORM's CARD OF 'phoenixlaw17.ForwardRecords'. -/
def forwardRecordsUptoCard : Claim7 := { stood := { row := forwardRecordsUptoRow, standIns := [], harness := (true, "3f929ad2f65dbfeb90cc299acd79fc021bc01e2d2813fdadbea8d3b0b000a647"), looks := true }, kinds := [], alts := [], laidByText := true, laidKinds := [.sentinel, .sentinel, .sentinel, .sentinel, .sentinel, .sentinel, .sentinel, .sentinel, .sentinel, .sentinel, .sentinel, .sentinel, .sentinel, .sentinel, .sentinel, .sentinel, .sentinel, .sentinel], laidTests := true, laidLooks := .later }
def ForwardRecordsUptoCardSaid : Prop := Claim7.holds Tryz.pinned (.plain (OpenSpec.upto forwardRecordsSpec)) forwardRecordsUptoCard

/-- THE SECOND FORM's CARD OF 'phoenixlaw17.ForwardWaits'. -/
def forwardWaitsUptoCard : Claim7 := { stood := { row := forwardWaitsUptoRow, standIns := [], harness := (true, "3f929ad2f65dbfeb90cc299acd79fc021bc01e2d2813fdadbea8d3b0b000a647"), looks := true }, kinds := [], alts := [], laidByText := true, laidKinds := [.sentinel, .sentinel, .sentinel, .sentinel, .sentinel, .sentinel, .sentinel, .sentinel, .sentinel, .sentinel, .sentinel, .sentinel, .sentinel, .sentinel, .sentinel, .sentinel, .sentinel, .sentinel], laidTests := true, laidLooks := .later }
def ForwardWaitsUptoCardSaid : Prop := Claim7.holds Tryz.pinned (.plain (OpenSpec.upto forwardWaitsSpec)) forwardWaitsUptoCard

/-- THE SECOND FORM's CARD OF 'phoenixlaw18.BackValues'. -/
def backValuesUptoCard : Claim7 := { stood := { row := backValuesUptoRow, standIns := [], harness := (true, "3f929ad2f65dbfeb90cc299acd79fc021bc01e2d2813fdadbea8d3b0b000a647"), looks := true }, kinds := [], alts := [], laidByText := true, laidKinds := [.sentinel, .sentinel, .sentinel, .sentinel, .sentinel, .sentinel, .sentinel, .sentinel, .sentinel, .sentinel, .sentinel, .sentinel, .sentinel, .sentinel, .sentinel, .sentinel, .sentinel, .sentinel], laidTests := true, laidLooks := .later }
def BackValuesUptoCardSaid : Prop := Claim7.holds Tryz.pinned (.plain (OpenSpec.upto backValuesSpec)) backValuesUptoCard

/-- THE SECOND FORM's CARD OF 'phoenixlaw18.BackRoom'. -/
def backRoomUptoCard : Claim7 := { stood := { row := backRoomUptoRow, standIns := [], harness := (true, "3f929ad2f65dbfeb90cc299acd79fc021bc01e2d2813fdadbea8d3b0b000a647"), looks := true }, kinds := [], alts := [], laidByText := true, laidKinds := [.sentinel, .sentinel, .sentinel, .sentinel, .sentinel, .sentinel, .sentinel, .sentinel, .sentinel, .sentinel, .sentinel, .sentinel, .sentinel, .sentinel, .sentinel, .sentinel, .sentinel, .sentinel], laidTests := true, laidLooks := .later }
def BackRoomUptoCardSaid : Prop := Claim7.holds Tryz.pinned (.plain (OpenSpec.upto backRoomSpec)) backRoomUptoCard

/-- THE SECOND FORM's CARD OF 'phoenixlaw18.BackTwice'. -/
def backTwiceUptoCard : Claim7 := { stood := { row := backTwiceUptoRow, standIns := [], harness := (true, "3f929ad2f65dbfeb90cc299acd79fc021bc01e2d2813fdadbea8d3b0b000a647"), looks := true }, kinds := [], alts := [], laidByText := true, laidKinds := [.sentinel, .sentinel, .sentinel, .sentinel, .sentinel, .sentinel, .sentinel, .sentinel, .sentinel, .sentinel, .sentinel, .sentinel, .sentinel, .sentinel, .sentinel, .sentinel, .sentinel, .sentinel], laidTests := true, laidLooks := .later }
def BackTwiceUptoCardSaid : Prop := Claim7.holds Tryz.pinned (.plain (OpenSpec.upto backTwiceSpec)) backTwiceUptoCard

/-- THE SECOND FORM's CARD OF 'phoenixlaw18.BackFull'. -/
def backFullUptoCard : Claim7 := { stood := { row := backFullUptoRow, standIns := [], harness := (true, "3f929ad2f65dbfeb90cc299acd79fc021bc01e2d2813fdadbea8d3b0b000a647"), looks := true }, kinds := [], alts := [], laidByText := true, laidKinds := [.sentinel, .sentinel, .sentinel, .sentinel, .sentinel, .sentinel, .sentinel, .sentinel, .sentinel, .sentinel, .sentinel, .sentinel, .sentinel, .sentinel, .sentinel, .sentinel, .sentinel, .sentinel], laidTests := true, laidLooks := .later }
def BackFullUptoCardSaid : Prop := Claim7.holds Tryz.pinned (.plain (OpenSpec.upto backFullSpec)) backFullUptoCard

/-- THE SECOND FORM's CARD OF 'phoenixlaw19.CkptRoom'. -/
def ckptRoomUptoCard : Claim7 := { stood := { row := ckptRoomUptoRow, standIns := [], harness := (true, "3f929ad2f65dbfeb90cc299acd79fc021bc01e2d2813fdadbea8d3b0b000a647"), looks := true }, kinds := [], alts := [], laidByText := true, laidKinds := [.sentinel, .sentinel, .sentinel, .sentinel, .sentinel, .sentinel, .sentinel, .sentinel, .sentinel, .sentinel, .sentinel, .sentinel, .sentinel, .sentinel, .sentinel, .sentinel, .sentinel, .sentinel], laidTests := true, laidLooks := .later }
def CkptRoomUptoCardSaid : Prop := Claim7.holds Tryz.pinned (.plain (OpenSpec.upto ckptRoomSpec)) ckptRoomUptoCard

/-- THE SECOND FORM's CARD OF 'phoenixlaw19.CkptPages'. -/
def ckptPagesUptoCard : Claim7 := { stood := { row := ckptPagesUptoRow, standIns := [], harness := (true, "3f929ad2f65dbfeb90cc299acd79fc021bc01e2d2813fdadbea8d3b0b000a647"), looks := true }, kinds := [], alts := [], laidByText := true, laidKinds := [.sentinel, .sentinel, .sentinel, .sentinel, .sentinel, .sentinel, .sentinel, .sentinel, .sentinel, .sentinel, .sentinel, .sentinel, .sentinel, .sentinel, .sentinel, .sentinel, .sentinel, .sentinel], laidTests := true, laidLooks := .later }
def CkptPagesUptoCardSaid : Prop := Claim7.holds Tryz.pinned (.plain (OpenSpec.upto ckptPagesSpec)) ckptPagesUptoCard

/-- THE SECOND FORM's CARD OF 'phoenixlaw19.CkptSpeaks'. -/
def ckptSpeaksUptoCard : Claim7 := { stood := { row := ckptSpeaksUptoRow, standIns := [], harness := (true, "3f929ad2f65dbfeb90cc299acd79fc021bc01e2d2813fdadbea8d3b0b000a647"), looks := true }, kinds := [], alts := [], laidByText := true, laidKinds := [.sentinel, .sentinel, .sentinel, .sentinel, .sentinel, .sentinel, .sentinel, .sentinel, .sentinel, .sentinel, .sentinel, .sentinel, .sentinel, .sentinel, .sentinel, .sentinel, .sentinel, .sentinel], laidTests := true, laidLooks := .later }
def CkptSpeaksUptoCardSaid : Prop := Claim7.holds Tryz.pinned (.plain (OpenSpec.upto ckptSpeaksSpec)) ckptSpeaksUptoCard

/-- THE SECOND FORM's CARD OF 'phoenixlaw19.CkptResets'. -/
def ckptResetsUptoCard : Claim7 := { stood := { row := ckptResetsUptoRow, standIns := [], harness := (true, "3f929ad2f65dbfeb90cc299acd79fc021bc01e2d2813fdadbea8d3b0b000a647"), looks := true }, kinds := [], alts := [], laidByText := true, laidKinds := [.sentinel, .sentinel, .sentinel, .sentinel, .sentinel, .sentinel, .sentinel, .sentinel, .sentinel, .sentinel, .sentinel, .sentinel, .sentinel, .sentinel, .sentinel, .sentinel, .sentinel, .sentinel], laidTests := true, laidLooks := .later }
def CkptResetsUptoCardSaid : Prop := Claim7.holds Tryz.pinned (.plain (OpenSpec.upto ckptResetsSpec)) ckptResetsUptoCard
end Rows
end Go.Proofs.YtaplpeoikebedaaGreatDoor
