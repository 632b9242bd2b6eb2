/-
  DERIVED. GIVEN WITH THE SEED: THE CARDS: each row of YtbbdmmhpbeleoaaDoorRows.lean that lists a variable, with what it lists TIED to the program's text (the seventh form; the later family's looks); each row that meets fmt, with fmt's text TOLD by the authors' own Lean function (tested against real Go, not proved from fmt's source: count such statements apart). THE CARD IS WHAT COUNTS. Prove the row's statement (the work); the ties are given (YtbbdmmhpbeleoaaDoorTie.lean); close each card by the builder's one call (the guide's Derived/Test/ToyasCard.lean, 'card_holds'). Laid BY PROGRAM, IN A SANDBOX (cutbox-door.mjs). By AI agents, Wed Nov 11 2026. No macro, syntax, notation, axiom, sorry.
-/
import Derived.Test.YtbbdmmhpbeleoaaDoorRows
import GoSem.ClaimSeven
namespace Go.Proofs.YtbbdmmhpbeleoaaDoor
namespace Rows

/-- THE TIED CARD OF 'palaverlaw14.CmdReplies'. -/
def cmdRepliesCard : Claim7 := { stood := { row := cmdRepliesRow, standIns := [], harness := (true, "d936662713e79c99310bb821913cf02764651b762e26576323012310a93854c5"), looks := true }, kinds := [], alts := [], laidByText := true, laidKinds := [.data, .data, .data, .data, .sentinel, .sentinel, .pinned], laidTests := true, laidLooks := .later }
def CmdRepliesCardSaid : Prop := Claim7.holds Tryd.pinned (.plain (OpenSpec.ofChange cmdRepliesSpec)) cmdRepliesCard

/-- THE TIED CARD OF 'palaverlaw24.ClientArgs'. -/
def clientArgsCard : Claim7 := { stood := { row := clientArgsRow, standIns := [], harness := (true, "d936662713e79c99310bb821913cf02764651b762e26576323012310a93854c5"), looks := true }, kinds := [], alts := [], laidByText := true, laidKinds := [.data, .data, .data, .data, .sentinel, .sentinel, .pinned], laidTests := true, laidLooks := .later }
def ClientArgsCardSaid : Prop := Claim7.holds Tryd.pinned (.plain (OpenSpec.ofChange clientArgsSpec)) clientArgsCard

/-- THE SECOND FORM's CARD OF 'palaverlaw14.CmdReplies'. -/
def cmdRepliesUptoCard : Claim7 := { stood := { row := cmdRepliesUptoRow, standIns := [], harness := (true, "d936662713e79c99310bb821913cf02764651b762e26576323012310a93854c5"), looks := true }, kinds := [], alts := [], laidByText := true, laidKinds := [.data, .data, .data, .data, .sentinel, .sentinel, .pinned], laidTests := true, laidLooks := .later }
def CmdRepliesUptoCardSaid : Prop := Claim7.holds Tryd.pinned (.plain (OpenSpec.upto cmdRepliesSpec)) cmdRepliesUptoCard

/-- THE SECOND FORM's CARD OF 'palaverlaw24.ClientArgs'. -/
def clientArgsUptoCard : Claim7 := { stood := { row := clientArgsUptoRow, standIns := [], harness := (true, "d936662713e79c99310bb821913cf02764651b762e26576323012310a93854c5"), looks := true }, kinds := [], alts := [], laidByText := true, laidKinds := [.data, .data, .data, .data, .sentinel, .sentinel, .pinned], laidTests := true, laidLooks := .later }
def ClientArgsUptoCardSaid : Prop := Claim7.holds Tryd.pinned (.plain (OpenSpec.upto clientArgsSpec)) clientArgsUptoCard
end Rows
end Go.Proofs.YtbbdmmhpbeleoaaDoor
