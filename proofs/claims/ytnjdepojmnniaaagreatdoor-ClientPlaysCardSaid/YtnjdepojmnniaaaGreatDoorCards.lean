/-
  DERIVED. GIVEN WITH THE SEED: THE CARDS: each row of YtnjdepojmnniaaaGreatDoorRows.lean that lists a variable, with what it lists TIED to the program's text (the seventh form; the later family's looks); each row that meets fmt, with fmt's text TOLD by the authors' own Lean function (tested against real Go, not proved from fmt's source: count such statements apart). THE CARD IS WHAT COUNTS. Prove the row's statement (the work); the ties are given (YtnjdepojmnniaaaGreatDoorTie.lean); close each card by the builder's one call (the guide's Derived/Test/ToyasCard.lean, 'card_holds'). Laid BY PROGRAM, IN A SANDBOX (cutbox-door.mjs). By AI agents, Wed Nov 11 2026. No macro, syntax, notation, axiom, sorry.
-/
import Derived.Test.YtnjdepojmnniaaaGreatDoorRows
import GoSem.ClaimSeven
namespace Go.Proofs.YtnjdepojmnniaaaGreatDoor
namespace Rows

/-- THE TIED CARD OF 'palaverlaw24.ClientSame'. -/
def clientSameCard : Claim7 := { stood := { row := clientSameRow, standIns := [], harness := (true, "5e25e5508cb24f1a71e3de7a9fa7f8f4899c075b12bb90eba64a46e31f83c1fb"), looks := true }, kinds := [], alts := [], laidByText := true, laidKinds := [.data, .data, .data, .data, .sentinel, .sentinel, .pinned], laidTests := true, laidLooks := .later }
def ClientSameCardSaid : Prop := Claim7.holds Tryz.pinned (.plain (OpenSpec.ofChange clientSameSpec)) clientSameCard

/-- THE TIED CARD OF 'palaverlaw24.ClientPlays'. -/
def clientPlaysCard : Claim7 := { stood := { row := clientPlaysRow, standIns := [], harness := (true, "5e25e5508cb24f1a71e3de7a9fa7f8f4899c075b12bb90eba64a46e31f83c1fb"), looks := true }, kinds := [], alts := [], laidByText := true, laidKinds := [.data, .data, .data, .data, .sentinel, .sentinel, .pinned], laidTests := true, laidLooks := .later }
def ClientPlaysCardSaid : Prop := Claim7.holds Tryz.pinned (.plain (OpenSpec.ofChange clientPlaysSpec)) clientPlaysCard

/-- THE SECOND FORM's CARD OF 'palaverlaw24.ClientSame'. -/
def clientSameUptoCard : Claim7 := { stood := { row := clientSameUptoRow, standIns := [], harness := (true, "5e25e5508cb24f1a71e3de7a9fa7f8f4899c075b12bb90eba64a46e31f83c1fb"), looks := true }, kinds := [], alts := [], laidByText := true, laidKinds := [.data, .data, .data, .data, .sentinel, .sentinel, .pinned], laidTests := true, laidLooks := .later }
def ClientSameUptoCardSaid : Prop := Claim7.holds Tryz.pinned (.plain (OpenSpec.upto clientSameSpec)) clientSameUptoCard

/-- THE SECOND FORM's CARD OF 'palaverlaw24.ClientPlays'. -/
def clientPlaysUptoCard : Claim7 := { stood := { row := clientPlaysUptoRow, standIns := [], harness := (true, "5e25e5508cb24f1a71e3de7a9fa7f8f4899c075b12bb90eba64a46e31f83c1fb"), looks := true }, kinds := [], alts := [], laidByText := true, laidKinds := [.data, .data, .data, .data, .sentinel, .sentinel, .pinned], laidTests := true, laidLooks := .later }
def ClientPlaysUptoCardSaid : Prop := Claim7.holds Tryz.pinned (.plain (OpenSpec.upto clientPlaysSpec)) clientPlaysUptoCard
end Rows
end Go.Proofs.YtnjdepojmnniaaaGreatDoor
