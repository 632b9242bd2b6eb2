/- CmdReplies, walked. -/
import Derived.Test.YtbbdmmhpbeleoaaGreatDoorCmL

set_option linter.unusedSimpArgs false
set_option linter.unusedVariables false
namespace Go.Proofs.YtbbdmmhpbeleoaaGreatDoor
open Go Go.RowKit

structure ReplyI (r : ReplyD) : Prop where
  err : I64 r.err
  n : I64 r.n
  vkind : I64 r.value.kind
  vn : I64 r.value.n
theorem ReplyI.w {r : ReplyD} (h : ReplyI r) (hs : shortR r = true) : ReplyW r := by
  unfold shortR at hs
  simp at hs
  exact ⟨h.err, h.n, h.vkind, h.vn, by omega⟩

end Go.Proofs.YtbbdmmhpbeleoaaGreatDoor
