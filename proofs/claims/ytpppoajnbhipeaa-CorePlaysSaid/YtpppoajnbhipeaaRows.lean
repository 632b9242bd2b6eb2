/-
  No cell of these rows narrows 'for every input' (looked for: loops, veiled, ifaces, maps, wideKeys, modest, calm, conditions, laid).
  DERIVED. THE GIVEN ROWS OF THIS SEAT. 9 by the template 'for every input the law returns true; each argument reads behind the call as it read before'; 0 by the template 'total and deterministic' (their statements: YtpppoajnbhipeaaTotals.lean).
  GIVEN WITH THE SEED: the statements are not yours to turn. If you find one false, say at which input.
  Laid BY PROGRAM, IN A SANDBOX (cutbox-rows.mjs): the forced cells as the released guide's own fill.sh prints them over the translation ab4194d3aec57d5a… (all of the seat's roots in one cut). By AI agents, Wed Nov 11 2026. No macro, syntax, notation, axiom, sorry.
-/
import Derived.Test.YtpppoajnbhipeaaChecked
import GoSem.Claim
import GoSem.ClaimJoined
import GoSem.ClaimMapViews
import Derived.JoinedTies
import Derived.KernelRfl
namespace Go.Proofs.Ytpppoajnbhipeaa
/- THE CELL 'sum', in the pinned program and in every row, IS THE sha256 OF THE DUMP (.gsa) THAT YtpppoajnbhipeaaProg.lean LOADS. Nothing in Lean hashes anything: it is a label: what it is worth is what the hold of that sum in a sandbox is worth. -/
noncomputable def Try.pinned : Pinned := { name := "ytpppoajnbhipeaa", sum := "ab4194d3aec57d5a12d2cc9366fb317c7c0d6b071009c3c6c05f8dcaff0c311c", checked := Try.checked }
namespace Rows
def none {H : Type} : Left H := { results := [], args := [] }

/-- 'palaverlaw22.CoreConfs': WHATEVER THE INPUT: true; the input reads as it did. -/
def coreConfsSpec : ChangeSpec := { name := "coreConfs", fn := fun _ => fun
  | [d1, d2, d3, d4, d5, d6] => { results := [.lit (.bool true)], args := [d1, d2, d3, d4, d5, d6] }
  | _ => none }
def coreConfsRow : OpenClaim := { program := "ytpppoajnbhipeaa", sum := "ab4194d3aec57d5a12d2cc9366fb317c7c0d6b071009c3c6c05f8dcaff0c311c", func := "palaver/palaverlaw22.CoreConfs", spec := "coreConfs", unfollowed := true, recurses := true, apart := false }
def CoreConfsSaid : Prop := coreConfsRow.holds Try.pinned (OpenSpec.ofChange coreConfsSpec)

/-- ITS FALSE NEIGHBOUR: 'it returns false'. Refute it at one input. -/
def coreConfsWrong : ChangeSpec := { name := "coreConfs", fn := fun _ => fun
  | [d1, d2, d3, d4, d5, d6] => { results := [.lit (.bool false)], args := [d1, d2, d3, d4, d5, d6] }
  | _ => none }
def CoreConfsWrongFalsely : Prop := coreConfsRow.holds Try.pinned (OpenSpec.ofChange coreConfsWrong)

/-- 'palaverlaw22.CoreVotes': WHATEVER THE INPUT: true; the input reads as it did. -/
def coreVotesSpec : ChangeSpec := { name := "coreVotes", fn := fun _ => fun
  | [d1, d2, d3] => { results := [.lit (.bool true)], args := [d1, d2, d3] }
  | _ => none }
def coreVotesRow : OpenClaim := { program := "ytpppoajnbhipeaa", sum := "ab4194d3aec57d5a12d2cc9366fb317c7c0d6b071009c3c6c05f8dcaff0c311c", func := "palaver/palaverlaw22.CoreVotes", spec := "coreVotes", unfollowed := true, recurses := true, apart := false }
def CoreVotesSaid : Prop := coreVotesRow.holds Try.pinned (OpenSpec.ofChange coreVotesSpec)

/-- ITS FALSE NEIGHBOUR: 'it returns false'. Refute it at one input. -/
def coreVotesWrong : ChangeSpec := { name := "coreVotes", fn := fun _ => fun
  | [d1, d2, d3] => { results := [.lit (.bool false)], args := [d1, d2, d3] }
  | _ => none }
def CoreVotesWrongFalsely : Prop := coreVotesRow.holds Try.pinned (OpenSpec.ofChange coreVotesWrong)

/-- 'palaverlaw22.CoreOld': WHATEVER THE INPUT: true; the input reads as it did. -/
def coreOldSpec : ChangeSpec := { name := "coreOld", fn := fun _ => fun
  | [d1, d2] => { results := [.lit (.bool true)], args := [d1, d2] }
  | _ => none }
def coreOldRow : OpenClaim := { program := "ytpppoajnbhipeaa", sum := "ab4194d3aec57d5a12d2cc9366fb317c7c0d6b071009c3c6c05f8dcaff0c311c", func := "palaver/palaverlaw22.CoreOld", spec := "coreOld", unfollowed := true, recurses := true, apart := false }
def CoreOldSaid : Prop := coreOldRow.holds Try.pinned (OpenSpec.ofChange coreOldSpec)

/-- ITS FALSE NEIGHBOUR: 'it returns false'. Refute it at one input. -/
def coreOldWrong : ChangeSpec := { name := "coreOld", fn := fun _ => fun
  | [d1, d2] => { results := [.lit (.bool false)], args := [d1, d2] }
  | _ => none }
def CoreOldWrongFalsely : Prop := coreOldRow.holds Try.pinned (OpenSpec.ofChange coreOldWrong)

/-- 'palaverlaw22.CoreSteps': WHATEVER THE INPUT: true; the input reads as it did. -/
def coreStepsSpec : ChangeSpec := { name := "coreSteps", fn := fun _ => fun
  | [d1, d2, d3, d4] => { results := [.lit (.bool true)], args := [d1, d2, d3, d4] }
  | _ => none }
def coreStepsRow : OpenClaim := { program := "ytpppoajnbhipeaa", sum := "ab4194d3aec57d5a12d2cc9366fb317c7c0d6b071009c3c6c05f8dcaff0c311c", func := "palaver/palaverlaw22.CoreSteps", spec := "coreSteps", unfollowed := true, recurses := true, apart := false }
def CoreStepsSaid : Prop := coreStepsRow.holds Try.pinned (OpenSpec.ofChange coreStepsSpec)

/-- ITS FALSE NEIGHBOUR: 'it returns false'. Refute it at one input. -/
def coreStepsWrong : ChangeSpec := { name := "coreSteps", fn := fun _ => fun
  | [d1, d2, d3, d4] => { results := [.lit (.bool false)], args := [d1, d2, d3, d4] }
  | _ => none }
def CoreStepsWrongFalsely : Prop := coreStepsRow.holds Try.pinned (OpenSpec.ofChange coreStepsWrong)

/-- 'palaverlaw22.CoreKeeps': WHATEVER THE INPUT: true; the input reads as it did. -/
def coreKeepsSpec : ChangeSpec := { name := "coreKeeps", fn := fun _ => fun
  | [d1, d2, d3] => { results := [.lit (.bool true)], args := [d1, d2, d3] }
  | _ => none }
def coreKeepsRow : OpenClaim := { program := "ytpppoajnbhipeaa", sum := "ab4194d3aec57d5a12d2cc9366fb317c7c0d6b071009c3c6c05f8dcaff0c311c", func := "palaver/palaverlaw22.CoreKeeps", spec := "coreKeeps", unfollowed := true, recurses := true, apart := false }
def CoreKeepsSaid : Prop := coreKeepsRow.holds Try.pinned (OpenSpec.ofChange coreKeepsSpec)

/-- ITS FALSE NEIGHBOUR: 'it returns false'. Refute it at one input. -/
def coreKeepsWrong : ChangeSpec := { name := "coreKeeps", fn := fun _ => fun
  | [d1, d2, d3] => { results := [.lit (.bool false)], args := [d1, d2, d3] }
  | _ => none }
def CoreKeepsWrongFalsely : Prop := coreKeepsRow.holds Try.pinned (OpenSpec.ofChange coreKeepsWrong)

/-- 'palaverlaw22.CoreAgrees': WHATEVER THE INPUT: true; the input reads as it did. -/
def coreAgreesSpec : ChangeSpec := { name := "coreAgrees", fn := fun _ => fun
  | [d1, d2, d3, d4] => { results := [.lit (.bool true)], args := [d1, d2, d3, d4] }
  | _ => none }
def coreAgreesRow : OpenClaim := { program := "ytpppoajnbhipeaa", sum := "ab4194d3aec57d5a12d2cc9366fb317c7c0d6b071009c3c6c05f8dcaff0c311c", func := "palaver/palaverlaw22.CoreAgrees", spec := "coreAgrees", unfollowed := true, recurses := true, apart := false }
def CoreAgreesSaid : Prop := coreAgreesRow.holds Try.pinned (OpenSpec.ofChange coreAgreesSpec)

/-- ITS FALSE NEIGHBOUR: 'it returns false'. Refute it at one input. -/
def coreAgreesWrong : ChangeSpec := { name := "coreAgrees", fn := fun _ => fun
  | [d1, d2, d3, d4] => { results := [.lit (.bool false)], args := [d1, d2, d3, d4] }
  | _ => none }
def CoreAgreesWrongFalsely : Prop := coreAgreesRow.holds Try.pinned (OpenSpec.ofChange coreAgreesWrong)

/-- 'palaverlaw22.CoreMatches': WHATEVER THE INPUT: true; the input reads as it did. -/
def coreMatchesSpec : ChangeSpec := { name := "coreMatches", fn := fun _ => fun
  | [d1, d2, d3, d4] => { results := [.lit (.bool true)], args := [d1, d2, d3, d4] }
  | _ => none }
def coreMatchesRow : OpenClaim := { program := "ytpppoajnbhipeaa", sum := "ab4194d3aec57d5a12d2cc9366fb317c7c0d6b071009c3c6c05f8dcaff0c311c", func := "palaver/palaverlaw22.CoreMatches", spec := "coreMatches", unfollowed := true, recurses := true, apart := false }
def CoreMatchesSaid : Prop := coreMatchesRow.holds Try.pinned (OpenSpec.ofChange coreMatchesSpec)

/-- ITS FALSE NEIGHBOUR: 'it returns false'. Refute it at one input. -/
def coreMatchesWrong : ChangeSpec := { name := "coreMatches", fn := fun _ => fun
  | [d1, d2, d3, d4] => { results := [.lit (.bool false)], args := [d1, d2, d3, d4] }
  | _ => none }
def CoreMatchesWrongFalsely : Prop := coreMatchesRow.holds Try.pinned (OpenSpec.ofChange coreMatchesWrong)

/-- 'palaverlaw22.CoreGrows': WHATEVER THE INPUT: true; the input reads as it did. -/
def coreGrowsSpec : ChangeSpec := { name := "coreGrows", fn := fun _ => fun
  | [d1, d2, d3, d4] => { results := [.lit (.bool true)], args := [d1, d2, d3, d4] }
  | _ => none }
def coreGrowsRow : OpenClaim := { program := "ytpppoajnbhipeaa", sum := "ab4194d3aec57d5a12d2cc9366fb317c7c0d6b071009c3c6c05f8dcaff0c311c", func := "palaver/palaverlaw22.CoreGrows", spec := "coreGrows", unfollowed := true, recurses := true, apart := false }
def CoreGrowsSaid : Prop := coreGrowsRow.holds Try.pinned (OpenSpec.ofChange coreGrowsSpec)

/-- ITS FALSE NEIGHBOUR: 'it returns false'. Refute it at one input. -/
def coreGrowsWrong : ChangeSpec := { name := "coreGrows", fn := fun _ => fun
  | [d1, d2, d3, d4] => { results := [.lit (.bool false)], args := [d1, d2, d3, d4] }
  | _ => none }
def CoreGrowsWrongFalsely : Prop := coreGrowsRow.holds Try.pinned (OpenSpec.ofChange coreGrowsWrong)

/-- 'palaverlaw22.CorePlays': WHATEVER THE INPUT: true; the input reads as it did. -/
def corePlaysSpec : ChangeSpec := { name := "corePlays", fn := fun _ => fun
  | [d1, d2, d3, d4, d5] => { results := [.lit (.bool true)], args := [d1, d2, d3, d4, d5] }
  | _ => none }
def corePlaysRow : OpenClaim := { program := "ytpppoajnbhipeaa", sum := "ab4194d3aec57d5a12d2cc9366fb317c7c0d6b071009c3c6c05f8dcaff0c311c", func := "palaver/palaverlaw22.CorePlays", spec := "corePlays", unfollowed := true, recurses := true, apart := false }
def CorePlaysSaid : Prop := corePlaysRow.holds Try.pinned (OpenSpec.ofChange corePlaysSpec)

/-- ITS FALSE NEIGHBOUR: 'it returns false'. Refute it at one input. -/
def corePlaysWrong : ChangeSpec := { name := "corePlays", fn := fun _ => fun
  | [d1, d2, d3, d4, d5] => { results := [.lit (.bool false)], args := [d1, d2, d3, d4, d5] }
  | _ => none }
def CorePlaysWrongFalsely : Prop := corePlaysRow.holds Try.pinned (OpenSpec.ofChange corePlaysWrong)

/- THE SECOND FORM. 'bulk': how many values and letters a reading holds, each counted each time it is reached (what is shared counts as often as it is met; a slice's spare places count too). A statement '..UptoSaid' is the law's where the arguments, and the package variables that the reading takes, are together of bulk at most 1048576: NARROWER than '..Said'. Prove '..Said' where nothing that the law and all that it calls make is longer than what came in: it says more and counts as full. Else prove '..UptoSaid'. A law counts once. -/
mutual
def uptoBulk {H : Type} : DataW H → Nat
  | .lit (.string bytes) => bytes.length + 1
  | .lit _ => 1
  | .nil => 1
  | .ptr d => uptoBulk d + 1
  | .slice elems spare => uptoBulkAll elems + uptoBulkAll spare + 1
  | .agg parts => uptoBulkAll parts + 1
  | .iface _ d => uptoBulk d + 1
  | .map entries => uptoBulkEntries entries + 1
  | .held _ => 1
def uptoBulkAll {H : Type} : List (DataW H) → Nat
  | [] => 0
  | d :: r => uptoBulk d + uptoBulkAll r
def uptoBulkEntries {H : Type} : List (Lit × DataW H) → Nat
  | [] => 0
  | x :: r => uptoBulkEntry x + uptoBulkEntries r
def uptoBulkEntry {H : Type} : Lit × DataW H → Nat
  | (.string bytes, d) => bytes.length + uptoBulk d + 1
  | (_, d) => uptoBulk d + 1
 end
def uptoSmall : (H : Type) → List (DataW H) → Bool := fun _ ds => decide (uptoBulkAll ds ≤ 1048576)
def OpenSpec.upto (s : _root_.Go.ChangeSpec) : _root_.Go.OpenSpec := { _root_.Go.OpenSpec.ofChange s with cond := some uptoSmall }

/-- 'palaverlaw22.CoreConfs', WHERE WHAT IT READS IS OF BULK AT MOST 1048576: true; the input reads as it did. -/
def coreConfsUptoRow : OpenClaim := { program := "ytpppoajnbhipeaa", sum := "ab4194d3aec57d5a12d2cc9366fb317c7c0d6b071009c3c6c05f8dcaff0c311c", func := "palaver/palaverlaw22.CoreConfs", spec := "coreConfs", unfollowed := true, recurses := true, apart := false, narrowed := true }
def CoreConfsUptoSaid : Prop := coreConfsUptoRow.holds Try.pinned (OpenSpec.upto coreConfsSpec)

/-- 'palaverlaw22.CoreVotes', WHERE WHAT IT READS IS OF BULK AT MOST 1048576: true; the input reads as it did. -/
def coreVotesUptoRow : OpenClaim := { program := "ytpppoajnbhipeaa", sum := "ab4194d3aec57d5a12d2cc9366fb317c7c0d6b071009c3c6c05f8dcaff0c311c", func := "palaver/palaverlaw22.CoreVotes", spec := "coreVotes", unfollowed := true, recurses := true, apart := false, narrowed := true }
def CoreVotesUptoSaid : Prop := coreVotesUptoRow.holds Try.pinned (OpenSpec.upto coreVotesSpec)

/-- 'palaverlaw22.CoreOld', WHERE WHAT IT READS IS OF BULK AT MOST 1048576: true; the input reads as it did. -/
def coreOldUptoRow : OpenClaim := { program := "ytpppoajnbhipeaa", sum := "ab4194d3aec57d5a12d2cc9366fb317c7c0d6b071009c3c6c05f8dcaff0c311c", func := "palaver/palaverlaw22.CoreOld", spec := "coreOld", unfollowed := true, recurses := true, apart := false, narrowed := true }
def CoreOldUptoSaid : Prop := coreOldUptoRow.holds Try.pinned (OpenSpec.upto coreOldSpec)

/-- 'palaverlaw22.CoreSteps', WHERE WHAT IT READS IS OF BULK AT MOST 1048576: true; the input reads as it did. -/
def coreStepsUptoRow : OpenClaim := { program := "ytpppoajnbhipeaa", sum := "ab4194d3aec57d5a12d2cc9366fb317c7c0d6b071009c3c6c05f8dcaff0c311c", func := "palaver/palaverlaw22.CoreSteps", spec := "coreSteps", unfollowed := true, recurses := true, apart := false, narrowed := true }
def CoreStepsUptoSaid : Prop := coreStepsUptoRow.holds Try.pinned (OpenSpec.upto coreStepsSpec)

/-- 'palaverlaw22.CoreKeeps', WHERE WHAT IT READS IS OF BULK AT MOST 1048576: true; the input reads as it did. -/
def coreKeepsUptoRow : OpenClaim := { program := "ytpppoajnbhipeaa", sum := "ab4194d3aec57d5a12d2cc9366fb317c7c0d6b071009c3c6c05f8dcaff0c311c", func := "palaver/palaverlaw22.CoreKeeps", spec := "coreKeeps", unfollowed := true, recurses := true, apart := false, narrowed := true }
def CoreKeepsUptoSaid : Prop := coreKeepsUptoRow.holds Try.pinned (OpenSpec.upto coreKeepsSpec)

/-- 'palaverlaw22.CoreAgrees', WHERE WHAT IT READS IS OF BULK AT MOST 1048576: true; the input reads as it did. -/
def coreAgreesUptoRow : OpenClaim := { program := "ytpppoajnbhipeaa", sum := "ab4194d3aec57d5a12d2cc9366fb317c7c0d6b071009c3c6c05f8dcaff0c311c", func := "palaver/palaverlaw22.CoreAgrees", spec := "coreAgrees", unfollowed := true, recurses := true, apart := false, narrowed := true }
def CoreAgreesUptoSaid : Prop := coreAgreesUptoRow.holds Try.pinned (OpenSpec.upto coreAgreesSpec)

/-- 'palaverlaw22.CoreMatches', WHERE WHAT IT READS IS OF BULK AT MOST 1048576: true; the input reads as it did. -/
def coreMatchesUptoRow : OpenClaim := { program := "ytpppoajnbhipeaa", sum := "ab4194d3aec57d5a12d2cc9366fb317c7c0d6b071009c3c6c05f8dcaff0c311c", func := "palaver/palaverlaw22.CoreMatches", spec := "coreMatches", unfollowed := true, recurses := true, apart := false, narrowed := true }
def CoreMatchesUptoSaid : Prop := coreMatchesUptoRow.holds Try.pinned (OpenSpec.upto coreMatchesSpec)

/-- 'palaverlaw22.CoreGrows', WHERE WHAT IT READS IS OF BULK AT MOST 1048576: true; the input reads as it did. -/
def coreGrowsUptoRow : OpenClaim := { program := "ytpppoajnbhipeaa", sum := "ab4194d3aec57d5a12d2cc9366fb317c7c0d6b071009c3c6c05f8dcaff0c311c", func := "palaver/palaverlaw22.CoreGrows", spec := "coreGrows", unfollowed := true, recurses := true, apart := false, narrowed := true }
def CoreGrowsUptoSaid : Prop := coreGrowsUptoRow.holds Try.pinned (OpenSpec.upto coreGrowsSpec)

/-- 'palaverlaw22.CorePlays', WHERE WHAT IT READS IS OF BULK AT MOST 1048576: true; the input reads as it did. -/
def corePlaysUptoRow : OpenClaim := { program := "ytpppoajnbhipeaa", sum := "ab4194d3aec57d5a12d2cc9366fb317c7c0d6b071009c3c6c05f8dcaff0c311c", func := "palaver/palaverlaw22.CorePlays", spec := "corePlays", unfollowed := true, recurses := true, apart := false, narrowed := true }
def CorePlaysUptoSaid : Prop := corePlaysUptoRow.holds Try.pinned (OpenSpec.upto corePlaysSpec)

end Rows
end Go.Proofs.Ytpppoajnbhipeaa
