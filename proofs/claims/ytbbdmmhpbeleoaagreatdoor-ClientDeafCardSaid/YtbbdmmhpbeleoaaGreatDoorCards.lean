/-
  DERIVED. GIVEN WITH THE SEED: THE CARDS: each row of YtbbdmmhpbeleoaaGreatDoorRows.lean that lists a variable, with what it lists TIED to the program's text (the seventh form; the later family's looks); each row that meets fmt, with fmt's text TOLD by the authors' own Lean function (tested against real Go, not proved from fmt's source: count such statements apart). THE CARD IS WHAT COUNTS. Prove the row's statement (the work); the ties are given (YtbbdmmhpbeleoaaGreatDoorTie.lean); close each card by the builder's one call (the guide's Derived/Test/ToyasCard.lean, 'card_holds'). Laid BY PROGRAM, IN A SANDBOX (cutbox-door.mjs). By AI agents, Wed Nov 11 2026. No macro, syntax, notation, axiom, sorry.
-/
import Derived.Test.YtbbdmmhpbeleoaaGreatDoorRows
import GoSem.ClaimSeven
namespace Go.Proofs.YtbbdmmhpbeleoaaGreatDoor
namespace Rows

/-- THE TIED CARD OF 'palaverlaw14.CmdBytes'. -/
def cmdBytesCard : Claim7 := { stood := { row := cmdBytesRow, standIns := [], harness := (true, "30574f8eb734b8a7aff476810bef93687c9985534b0f48e0a3844fbec616c8cb"), looks := true }, kinds := [], alts := [], laidByText := true, laidKinds := [.data, .data, .data, .data, .sentinel, .sentinel, .pinned], laidTests := true, laidLooks := .later }
def CmdBytesCardSaid : Prop := Claim7.holds Tryz.pinned (.plain (OpenSpec.ofChange cmdBytesSpec)) cmdBytesCard

/-- THE TIED CARD OF 'palaverlaw14.CmdCuts'. -/
def cmdCutsCard : Claim7 := { stood := { row := cmdCutsRow, standIns := [], harness := (true, "30574f8eb734b8a7aff476810bef93687c9985534b0f48e0a3844fbec616c8cb"), looks := true }, kinds := [], alts := [], laidByText := true, laidKinds := [.data, .data, .data, .data, .sentinel, .sentinel, .pinned], laidTests := true, laidLooks := .later }
def CmdCutsCardSaid : Prop := Claim7.holds Tryz.pinned (.plain (OpenSpec.ofChange cmdCutsSpec)) cmdCutsCard

/-- THE TIED CARD OF 'palaverlaw14.CmdChecks'. -/
def cmdChecksCard : Claim7 := { stood := { row := cmdChecksRow, standIns := [], harness := (true, "30574f8eb734b8a7aff476810bef93687c9985534b0f48e0a3844fbec616c8cb"), looks := true }, kinds := [], alts := [], laidByText := true, laidKinds := [.data, .data, .data, .data, .sentinel, .sentinel, .pinned], laidTests := true, laidLooks := .later }
def CmdChecksCardSaid : Prop := Claim7.holds Tryz.pinned (.plain (OpenSpec.ofChange cmdChecksSpec)) cmdChecksCard

/-- THE TIED CARD OF 'palaverlaw14.CmdApart'. -/
def cmdApartCard : Claim7 := { stood := { row := cmdApartRow, standIns := [], harness := (true, "30574f8eb734b8a7aff476810bef93687c9985534b0f48e0a3844fbec616c8cb"), looks := true }, kinds := [], alts := [], laidByText := true, laidKinds := [.data, .data, .data, .data, .sentinel, .sentinel, .pinned], laidTests := true, laidLooks := .later }
def CmdApartCardSaid : Prop := Claim7.holds Tryz.pinned (.plain (OpenSpec.ofChange cmdApartSpec)) cmdApartCard

/-- THE TIED CARD OF 'palaverlaw14.CmdReads'. -/
def cmdReadsCard : Claim7 := { stood := { row := cmdReadsRow, standIns := [], harness := (true, "30574f8eb734b8a7aff476810bef93687c9985534b0f48e0a3844fbec616c8cb"), looks := true }, kinds := [], alts := [], laidByText := true, laidKinds := [.data, .data, .data, .data, .sentinel, .sentinel, .pinned], laidTests := true, laidLooks := .later }
def CmdReadsCardSaid : Prop := Claim7.holds Tryz.pinned (.plain (OpenSpec.ofChange cmdReadsSpec)) cmdReadsCard

/-- THE TIED CARD OF 'palaverlaw24.ClientDeaf'. -/
def clientDeafCard : Claim7 := { stood := { row := clientDeafRow, standIns := [], harness := (true, "30574f8eb734b8a7aff476810bef93687c9985534b0f48e0a3844fbec616c8cb"), looks := true }, kinds := [], alts := [], laidByText := true, laidKinds := [.data, .data, .data, .data, .sentinel, .sentinel, .pinned], laidTests := true, laidLooks := .later }
def ClientDeafCardSaid : Prop := Claim7.holds Tryz.pinned (.plain (OpenSpec.ofChange clientDeafSpec)) clientDeafCard

/-- THE TIED CARD OF 'palaverlaw24.ClientCalls'. -/
def clientCallsCard : Claim7 := { stood := { row := clientCallsRow, standIns := [], harness := (true, "30574f8eb734b8a7aff476810bef93687c9985534b0f48e0a3844fbec616c8cb"), looks := true }, kinds := [], alts := [], laidByText := true, laidKinds := [.data, .data, .data, .data, .sentinel, .sentinel, .pinned], laidTests := true, laidLooks := .later }
def ClientCallsCardSaid : Prop := Claim7.holds Tryz.pinned (.plain (OpenSpec.ofChange clientCallsSpec)) clientCallsCard

/-- THE TIED CARD OF 'palaverlaw24.ClientSame'. -/
def clientSameCard : Claim7 := { stood := { row := clientSameRow, standIns := [], harness := (true, "30574f8eb734b8a7aff476810bef93687c9985534b0f48e0a3844fbec616c8cb"), looks := true }, kinds := [], alts := [], laidByText := true, laidKinds := [.data, .data, .data, .data, .sentinel, .sentinel, .pinned], laidTests := true, laidLooks := .later }
def ClientSameCardSaid : Prop := Claim7.holds Tryz.pinned (.plain (OpenSpec.ofChange clientSameSpec)) clientSameCard

/-- THE TIED CARD OF 'palaverlaw24.ClientRound'. -/
def clientRoundCard : Claim7 := { stood := { row := clientRoundRow, standIns := [], harness := (true, "30574f8eb734b8a7aff476810bef93687c9985534b0f48e0a3844fbec616c8cb"), looks := true }, kinds := [], alts := [], laidByText := true, laidKinds := [.data, .data, .data, .data, .sentinel, .sentinel, .pinned], laidTests := true, laidLooks := .later }
def ClientRoundCardSaid : Prop := Claim7.holds Tryz.pinned (.plain (OpenSpec.ofChange clientRoundSpec)) clientRoundCard

/-- THE TIED CARD OF 'palaverlaw24.ClientPlays'. -/
def clientPlaysCard : Claim7 := { stood := { row := clientPlaysRow, standIns := [], harness := (true, "30574f8eb734b8a7aff476810bef93687c9985534b0f48e0a3844fbec616c8cb"), looks := true }, kinds := [], alts := [], laidByText := true, laidKinds := [.data, .data, .data, .data, .sentinel, .sentinel, .pinned], laidTests := true, laidLooks := .later }
def ClientPlaysCardSaid : Prop := Claim7.holds Tryz.pinned (.plain (OpenSpec.ofChange clientPlaysSpec)) clientPlaysCard

/-- THE SECOND FORM's CARD OF 'palaverlaw14.CmdBytes'. -/
def cmdBytesUptoCard : Claim7 := { stood := { row := cmdBytesUptoRow, standIns := [], harness := (true, "30574f8eb734b8a7aff476810bef93687c9985534b0f48e0a3844fbec616c8cb"), looks := true }, kinds := [], alts := [], laidByText := true, laidKinds := [.data, .data, .data, .data, .sentinel, .sentinel, .pinned], laidTests := true, laidLooks := .later }
def CmdBytesUptoCardSaid : Prop := Claim7.holds Tryz.pinned (.plain (OpenSpec.upto cmdBytesSpec)) cmdBytesUptoCard

/-- THE SECOND FORM's CARD OF 'palaverlaw14.CmdCuts'. -/
def cmdCutsUptoCard : Claim7 := { stood := { row := cmdCutsUptoRow, standIns := [], harness := (true, "30574f8eb734b8a7aff476810bef93687c9985534b0f48e0a3844fbec616c8cb"), looks := true }, kinds := [], alts := [], laidByText := true, laidKinds := [.data, .data, .data, .data, .sentinel, .sentinel, .pinned], laidTests := true, laidLooks := .later }
def CmdCutsUptoCardSaid : Prop := Claim7.holds Tryz.pinned (.plain (OpenSpec.upto cmdCutsSpec)) cmdCutsUptoCard

/-- THE SECOND FORM's CARD OF 'palaverlaw14.CmdChecks'. -/
def cmdChecksUptoCard : Claim7 := { stood := { row := cmdChecksUptoRow, standIns := [], harness := (true, "30574f8eb734b8a7aff476810bef93687c9985534b0f48e0a3844fbec616c8cb"), looks := true }, kinds := [], alts := [], laidByText := true, laidKinds := [.data, .data, .data, .data, .sentinel, .sentinel, .pinned], laidTests := true, laidLooks := .later }
def CmdChecksUptoCardSaid : Prop := Claim7.holds Tryz.pinned (.plain (OpenSpec.upto cmdChecksSpec)) cmdChecksUptoCard

/-- THE SECOND FORM's CARD OF 'palaverlaw14.CmdApart'. -/
def cmdApartUptoCard : Claim7 := { stood := { row := cmdApartUptoRow, standIns := [], harness := (true, "30574f8eb734b8a7aff476810bef93687c9985534b0f48e0a3844fbec616c8cb"), looks := true }, kinds := [], alts := [], laidByText := true, laidKinds := [.data, .data, .data, .data, .sentinel, .sentinel, .pinned], laidTests := true, laidLooks := .later }
def CmdApartUptoCardSaid : Prop := Claim7.holds Tryz.pinned (.plain (OpenSpec.upto cmdApartSpec)) cmdApartUptoCard

/-- THE SECOND FORM's CARD OF 'palaverlaw14.CmdReads'. -/
def cmdReadsUptoCard : Claim7 := { stood := { row := cmdReadsUptoRow, standIns := [], harness := (true, "30574f8eb734b8a7aff476810bef93687c9985534b0f48e0a3844fbec616c8cb"), looks := true }, kinds := [], alts := [], laidByText := true, laidKinds := [.data, .data, .data, .data, .sentinel, .sentinel, .pinned], laidTests := true, laidLooks := .later }
def CmdReadsUptoCardSaid : Prop := Claim7.holds Tryz.pinned (.plain (OpenSpec.upto cmdReadsSpec)) cmdReadsUptoCard

/-- THE SECOND FORM's CARD OF 'palaverlaw24.ClientDeaf'. -/
def clientDeafUptoCard : Claim7 := { stood := { row := clientDeafUptoRow, standIns := [], harness := (true, "30574f8eb734b8a7aff476810bef93687c9985534b0f48e0a3844fbec616c8cb"), looks := true }, kinds := [], alts := [], laidByText := true, laidKinds := [.data, .data, .data, .data, .sentinel, .sentinel, .pinned], laidTests := true, laidLooks := .later }
def ClientDeafUptoCardSaid : Prop := Claim7.holds Tryz.pinned (.plain (OpenSpec.upto clientDeafSpec)) clientDeafUptoCard

/-- THE SECOND FORM's CARD OF 'palaverlaw24.ClientCalls'. -/
def clientCallsUptoCard : Claim7 := { stood := { row := clientCallsUptoRow, standIns := [], harness := (true, "30574f8eb734b8a7aff476810bef93687c9985534b0f48e0a3844fbec616c8cb"), looks := true }, kinds := [], alts := [], laidByText := true, laidKinds := [.data, .data, .data, .data, .sentinel, .sentinel, .pinned], laidTests := true, laidLooks := .later }
def ClientCallsUptoCardSaid : Prop := Claim7.holds Tryz.pinned (.plain (OpenSpec.upto clientCallsSpec)) clientCallsUptoCard

/-- THE SECOND FORM's CARD OF 'palaverlaw24.ClientSame'. -/
def clientSameUptoCard : Claim7 := { stood := { row := clientSameUptoRow, standIns := [], harness := (true, "30574f8eb734b8a7aff476810bef93687c9985534b0f48e0a3844fbec616c8cb"), looks := true }, kinds := [], alts := [], laidByText := true, laidKinds := [.data, .data, .data, .data, .sentinel, .sentinel, .pinned], laidTests := true, laidLooks := .later }
def ClientSameUptoCardSaid : Prop := Claim7.holds Tryz.pinned (.plain (OpenSpec.upto clientSameSpec)) clientSameUptoCard

/-- THE SECOND FORM's CARD OF 'palaverlaw24.ClientRound'. -/
def clientRoundUptoCard : Claim7 := { stood := { row := clientRoundUptoRow, standIns := [], harness := (true, "30574f8eb734b8a7aff476810bef93687c9985534b0f48e0a3844fbec616c8cb"), looks := true }, kinds := [], alts := [], laidByText := true, laidKinds := [.data, .data, .data, .data, .sentinel, .sentinel, .pinned], laidTests := true, laidLooks := .later }
def ClientRoundUptoCardSaid : Prop := Claim7.holds Tryz.pinned (.plain (OpenSpec.upto clientRoundSpec)) clientRoundUptoCard

/-- THE SECOND FORM's CARD OF 'palaverlaw24.ClientPlays'. -/
def clientPlaysUptoCard : Claim7 := { stood := { row := clientPlaysUptoRow, standIns := [], harness := (true, "30574f8eb734b8a7aff476810bef93687c9985534b0f48e0a3844fbec616c8cb"), looks := true }, kinds := [], alts := [], laidByText := true, laidKinds := [.data, .data, .data, .data, .sentinel, .sentinel, .pinned], laidTests := true, laidLooks := .later }
def ClientPlaysUptoCardSaid : Prop := Claim7.holds Tryz.pinned (.plain (OpenSpec.upto clientPlaysSpec)) clientPlaysUptoCard
end Rows
end Go.Proofs.YtbbdmmhpbeleoaaGreatDoor
