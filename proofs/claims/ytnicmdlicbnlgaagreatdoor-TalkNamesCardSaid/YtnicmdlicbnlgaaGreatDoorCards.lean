/-
  DERIVED. GIVEN WITH THE SEED: THE CARDS: each row of YtnicmdlicbnlgaaGreatDoorRows.lean that lists a variable, with what it lists TIED to the program's text (the seventh form; the later family's looks); each row that meets fmt, with fmt's text TOLD by the authors' own Lean function (tested against real Go, not proved from fmt's source: count such statements apart). THE CARD IS WHAT COUNTS. Prove the row's statement (the work); the ties are given (YtnicmdlicbnlgaaGreatDoorTie.lean); close each card by the builder's one call (the guide's Derived/Test/ToyasCard.lean, 'card_holds'). Laid BY PROGRAM, IN A SANDBOX (cutbox-door.mjs). By AI agents, Wed Nov 11 2026. No macro, syntax, notation, axiom, sorry.
-/
import Derived.Test.YtnicmdlicbnlgaaGreatDoorRows
import GoSem.ClaimSeven
namespace Go.Proofs.YtnicmdlicbnlgaaGreatDoor
namespace Rows

/-- THE TIED CARD OF 'docketlaw28.WireFeeds'. -/
def wireFeedsCard : Claim7 := { stood := { row := wireFeedsRow, standIns := [], harness := (true, "ca317a7973f1e034bbed1581eff5ce75465ad840f61632717bc2b50cac75140a"), looks := true }, kinds := [], alts := [], laidByText := true, laidKinds := [.data, .data, .data, .data, .sentinel, .sentinel, .pinned, .pinned], laidTests := true, laidLooks := .later }
def WireFeedsCardSaid : Prop := Claim7.holds Tryz.pinned (.plain (OpenSpec.ofChange wireFeedsSpec)) wireFeedsCard

/-- THE TIED CARD OF 'docketlaw28.WireReads'. -/
def wireReadsCard : Claim7 := { stood := { row := wireReadsRow, standIns := [], harness := (true, "ca317a7973f1e034bbed1581eff5ce75465ad840f61632717bc2b50cac75140a"), looks := true }, kinds := [], alts := [], laidByText := true, laidKinds := [.data, .data, .data, .data, .sentinel, .sentinel, .pinned, .pinned], laidTests := true, laidLooks := .later }
def WireReadsCardSaid : Prop := Claim7.holds Tryz.pinned (.plain (OpenSpec.ofChange wireReadsSpec)) wireReadsCard

/-- THE TIED CARD OF 'docketlaw28.WireMore'. -/
def wireMoreCard : Claim7 := { stood := { row := wireMoreRow, standIns := [], harness := (true, "ca317a7973f1e034bbed1581eff5ce75465ad840f61632717bc2b50cac75140a"), looks := true }, kinds := [], alts := [], laidByText := true, laidKinds := [.data, .data, .data, .data, .sentinel, .sentinel, .pinned, .pinned], laidTests := true, laidLooks := .later }
def WireMoreCardSaid : Prop := Claim7.holds Tryz.pinned (.plain (OpenSpec.ofChange wireMoreSpec)) wireMoreCard

/-- THE TIED CARD OF 'docketlaw28.WirePieces'. -/
def wirePiecesCard : Claim7 := { stood := { row := wirePiecesRow, standIns := [], harness := (true, "ca317a7973f1e034bbed1581eff5ce75465ad840f61632717bc2b50cac75140a"), looks := true }, kinds := [], alts := [], laidByText := true, laidKinds := [.data, .data, .data, .data, .sentinel, .sentinel, .pinned, .pinned], laidTests := true, laidLooks := .later }
def WirePiecesCardSaid : Prop := Claim7.holds Tryz.pinned (.plain (OpenSpec.ofChange wirePiecesSpec)) wirePiecesCard

/-- THE TIED CARD OF 'docketlaw28.WireNames'. -/
def wireNamesCard : Claim7 := { stood := { row := wireNamesRow, standIns := [], harness := (true, "ca317a7973f1e034bbed1581eff5ce75465ad840f61632717bc2b50cac75140a"), looks := true }, kinds := [], alts := [], laidByText := true, laidKinds := [.data, .data, .data, .data, .sentinel, .sentinel, .pinned, .pinned], laidTests := true, laidLooks := .later }
def WireNamesCardSaid : Prop := Claim7.holds Tryz.pinned (.plain (OpenSpec.ofChange wireNamesSpec)) wireNamesCard

/-- THE TIED CARD OF 'docketlaw28.WireBack'. -/
def wireBackCard : Claim7 := { stood := { row := wireBackRow, standIns := [], harness := (true, "ca317a7973f1e034bbed1581eff5ce75465ad840f61632717bc2b50cac75140a"), looks := true }, kinds := [], alts := [], laidByText := true, laidKinds := [.data, .data, .data, .data, .sentinel, .sentinel, .pinned, .pinned], laidTests := true, laidLooks := .later }
def WireBackCardSaid : Prop := Claim7.holds Tryz.pinned (.plain (OpenSpec.ofChange wireBackSpec)) wireBackCard

/-- THE TIED CARD OF 'docketlaw29.TalkNames'. -/
def talkNamesCard : Claim7 := { stood := { row := talkNamesRow, standIns := [], harness := (true, "ca317a7973f1e034bbed1581eff5ce75465ad840f61632717bc2b50cac75140a"), looks := true }, kinds := [], alts := [], laidByText := true, laidKinds := [.data, .data, .data, .data, .sentinel, .sentinel, .pinned, .pinned], laidTests := true, laidLooks := .later }
def TalkNamesCardSaid : Prop := Claim7.holds Tryz.pinned (.plain (OpenSpec.ofChange talkNamesSpec)) talkNamesCard

/-- THE TIED CARD OF 'docketlaw29.TalkGoes'. -/
def talkGoesCard : Claim7 := { stood := { row := talkGoesRow, standIns := [], harness := (true, "ca317a7973f1e034bbed1581eff5ce75465ad840f61632717bc2b50cac75140a"), looks := true }, kinds := [], alts := [], laidByText := true, laidKinds := [.data, .data, .data, .data, .sentinel, .sentinel, .pinned, .pinned], laidTests := true, laidLooks := .later }
def TalkGoesCardSaid : Prop := Claim7.holds Tryz.pinned (.plain (OpenSpec.ofChange talkGoesSpec)) talkGoesCard

/-- THE TIED CARD OF 'docketlaw29.TalkOrder'. -/
def talkOrderCard : Claim7 := { stood := { row := talkOrderRow, standIns := [], harness := (true, "ca317a7973f1e034bbed1581eff5ce75465ad840f61632717bc2b50cac75140a"), looks := true }, kinds := [], alts := [], laidByText := true, laidKinds := [.data, .data, .data, .data, .sentinel, .sentinel, .pinned, .pinned], laidTests := true, laidLooks := .later }
def TalkOrderCardSaid : Prop := Claim7.holds Tryz.pinned (.plain (OpenSpec.ofChange talkOrderSpec)) talkOrderCard

/-- THE TIED CARD OF 'docketlaw29.TalkPieces'. -/
def talkPiecesCard : Claim7 := { stood := { row := talkPiecesRow, standIns := [], harness := (true, "ca317a7973f1e034bbed1581eff5ce75465ad840f61632717bc2b50cac75140a"), looks := true }, kinds := [], alts := [], laidByText := true, laidKinds := [.data, .data, .data, .data, .sentinel, .sentinel, .pinned, .pinned], laidTests := true, laidLooks := .later }
def TalkPiecesCardSaid : Prop := Claim7.holds Tryz.pinned (.plain (OpenSpec.ofChange talkPiecesSpec)) talkPiecesCard

/-- THE SECOND FORM's CARD OF 'docketlaw28.WireFeeds'. -/
def wireFeedsUptoCard : Claim7 := { stood := { row := wireFeedsUptoRow, standIns := [], harness := (true, "ca317a7973f1e034bbed1581eff5ce75465ad840f61632717bc2b50cac75140a"), looks := true }, kinds := [], alts := [], laidByText := true, laidKinds := [.data, .data, .data, .data, .sentinel, .sentinel, .pinned, .pinned], laidTests := true, laidLooks := .later }
def WireFeedsUptoCardSaid : Prop := Claim7.holds Tryz.pinned (.plain (OpenSpec.upto wireFeedsSpec)) wireFeedsUptoCard

/-- THE SECOND FORM's CARD OF 'docketlaw28.WireReads'. -/
def wireReadsUptoCard : Claim7 := { stood := { row := wireReadsUptoRow, standIns := [], harness := (true, "ca317a7973f1e034bbed1581eff5ce75465ad840f61632717bc2b50cac75140a"), looks := true }, kinds := [], alts := [], laidByText := true, laidKinds := [.data, .data, .data, .data, .sentinel, .sentinel, .pinned, .pinned], laidTests := true, laidLooks := .later }
def WireReadsUptoCardSaid : Prop := Claim7.holds Tryz.pinned (.plain (OpenSpec.upto wireReadsSpec)) wireReadsUptoCard

/-- THE SECOND FORM's CARD OF 'docketlaw28.WireMore'. -/
def wireMoreUptoCard : Claim7 := { stood := { row := wireMoreUptoRow, standIns := [], harness := (true, "ca317a7973f1e034bbed1581eff5ce75465ad840f61632717bc2b50cac75140a"), looks := true }, kinds := [], alts := [], laidByText := true, laidKinds := [.data, .data, .data, .data, .sentinel, .sentinel, .pinned, .pinned], laidTests := true, laidLooks := .later }
def WireMoreUptoCardSaid : Prop := Claim7.holds Tryz.pinned (.plain (OpenSpec.upto wireMoreSpec)) wireMoreUptoCard

/-- THE SECOND FORM's CARD OF 'docketlaw28.WirePieces'. -/
def wirePiecesUptoCard : Claim7 := { stood := { row := wirePiecesUptoRow, standIns := [], harness := (true, "ca317a7973f1e034bbed1581eff5ce75465ad840f61632717bc2b50cac75140a"), looks := true }, kinds := [], alts := [], laidByText := true, laidKinds := [.data, .data, .data, .data, .sentinel, .sentinel, .pinned, .pinned], laidTests := true, laidLooks := .later }
def WirePiecesUptoCardSaid : Prop := Claim7.holds Tryz.pinned (.plain (OpenSpec.upto wirePiecesSpec)) wirePiecesUptoCard

/-- THE SECOND FORM's CARD OF 'docketlaw28.WireNames'. -/
def wireNamesUptoCard : Claim7 := { stood := { row := wireNamesUptoRow, standIns := [], harness := (true, "ca317a7973f1e034bbed1581eff5ce75465ad840f61632717bc2b50cac75140a"), looks := true }, kinds := [], alts := [], laidByText := true, laidKinds := [.data, .data, .data, .data, .sentinel, .sentinel, .pinned, .pinned], laidTests := true, laidLooks := .later }
def WireNamesUptoCardSaid : Prop := Claim7.holds Tryz.pinned (.plain (OpenSpec.upto wireNamesSpec)) wireNamesUptoCard

/-- THE SECOND FORM's CARD OF 'docketlaw28.WireBack'. -/
def wireBackUptoCard : Claim7 := { stood := { row := wireBackUptoRow, standIns := [], harness := (true, "ca317a7973f1e034bbed1581eff5ce75465ad840f61632717bc2b50cac75140a"), looks := true }, kinds := [], alts := [], laidByText := true, laidKinds := [.data, .data, .data, .data, .sentinel, .sentinel, .pinned, .pinned], laidTests := true, laidLooks := .later }
def WireBackUptoCardSaid : Prop := Claim7.holds Tryz.pinned (.plain (OpenSpec.upto wireBackSpec)) wireBackUptoCard

/-- THE SECOND FORM's CARD OF 'docketlaw29.TalkNames'. -/
def talkNamesUptoCard : Claim7 := { stood := { row := talkNamesUptoRow, standIns := [], harness := (true, "ca317a7973f1e034bbed1581eff5ce75465ad840f61632717bc2b50cac75140a"), looks := true }, kinds := [], alts := [], laidByText := true, laidKinds := [.data, .data, .data, .data, .sentinel, .sentinel, .pinned, .pinned], laidTests := true, laidLooks := .later }
def TalkNamesUptoCardSaid : Prop := Claim7.holds Tryz.pinned (.plain (OpenSpec.upto talkNamesSpec)) talkNamesUptoCard

/-- THE SECOND FORM's CARD OF 'docketlaw29.TalkGoes'. -/
def talkGoesUptoCard : Claim7 := { stood := { row := talkGoesUptoRow, standIns := [], harness := (true, "ca317a7973f1e034bbed1581eff5ce75465ad840f61632717bc2b50cac75140a"), looks := true }, kinds := [], alts := [], laidByText := true, laidKinds := [.data, .data, .data, .data, .sentinel, .sentinel, .pinned, .pinned], laidTests := true, laidLooks := .later }
def TalkGoesUptoCardSaid : Prop := Claim7.holds Tryz.pinned (.plain (OpenSpec.upto talkGoesSpec)) talkGoesUptoCard

/-- THE SECOND FORM's CARD OF 'docketlaw29.TalkOrder'. -/
def talkOrderUptoCard : Claim7 := { stood := { row := talkOrderUptoRow, standIns := [], harness := (true, "ca317a7973f1e034bbed1581eff5ce75465ad840f61632717bc2b50cac75140a"), looks := true }, kinds := [], alts := [], laidByText := true, laidKinds := [.data, .data, .data, .data, .sentinel, .sentinel, .pinned, .pinned], laidTests := true, laidLooks := .later }
def TalkOrderUptoCardSaid : Prop := Claim7.holds Tryz.pinned (.plain (OpenSpec.upto talkOrderSpec)) talkOrderUptoCard

/-- THE SECOND FORM's CARD OF 'docketlaw29.TalkPieces'. -/
def talkPiecesUptoCard : Claim7 := { stood := { row := talkPiecesUptoRow, standIns := [], harness := (true, "ca317a7973f1e034bbed1581eff5ce75465ad840f61632717bc2b50cac75140a"), looks := true }, kinds := [], alts := [], laidByText := true, laidKinds := [.data, .data, .data, .data, .sentinel, .sentinel, .pinned, .pinned], laidTests := true, laidLooks := .later }
def TalkPiecesUptoCardSaid : Prop := Claim7.holds Tryz.pinned (.plain (OpenSpec.upto talkPiecesSpec)) talkPiecesUptoCard
end Rows
end Go.Proofs.YtnicmdlicbnlgaaGreatDoor
