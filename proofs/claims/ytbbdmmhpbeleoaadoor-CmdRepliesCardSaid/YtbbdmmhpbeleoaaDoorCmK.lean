/- CmdChecks, walked. -/
import Derived.Test.YtbbdmmhpbeleoaaDoorQ11
namespace Go.Proofs.YtbbdmmhpbeleoaaDoor
open Go Go.RowKit

def shortR (r : ReplyD) : Bool := decide (r.value.s.size ≤ 1000)
def rowC (c : CmdD) : Obj := .cells #[.int .i64 c.kind, .int .i64 c.session, .int .i64 c.seq, .string c.field, .int .i64 c.version, .int .i64 c.value.kind, .int .i64 c.value.n, .string c.value.s] 34 (0, 0)
def rowR (r : ReplyD) : Obj := .cells #[.int .i64 r.err, .int .i64 r.n, .int .i64 r.value.kind, .int .i64 r.value.n, .string r.value.s] 26 (0, 0)

end Go.Proofs.YtbbdmmhpbeleoaaDoor
