/- The program's VersDo. -/
import Derived.Test.YtpjkcmmmpgncmaaCommit
import Derived.Test.YtpjkcmmmpgncmaaWrtOk
import Derived.Test.YtpjkcmmmpgncmaaVerOk
namespace Go.Proofs.Ytpjkcmmmpgncmaa
open Go.RowKit
/-- what doing something answers: the time, the versions, whether it was done -/
noncomputable def doV (now : Int) (l : List Ver) (ws : List Wri) : (Int × List Ver) × Bool :=
  if versB now l = true then (if wrsB 6 ws = true then (if versB (now + 1) (doS (now + 1) l ws) = true then ((now + 1, doS (now + 1) l ws), true) else ((now, l), false)) else ((now, l), false)) else ((0, []), false)
/-- an answer of a store and a truth value, in memory of one's own -/
def DoPost (w : World) (r : (Int × List Ver) × Bool) (e : Ending) (w' : World) : Prop :=
  ∃ v, e = .returned (.tuple #[.agg #[.int .i64 r.1.1, v], .bool r.2]) ∧ OwnV w' w.heap.size v r.1.2 ∧ Below w.heap.size w w'
end Go.Proofs.Ytpjkcmmmpgncmaa
