import Derived.RangeFuncNested
import Derived.RangeFuncBound
import Derived.RangeFuncCalls
import Derived.RangeFuncLeaves
import Derived.RangeFuncWrites
import Derived.RangeFuncBox
import Derived.Shelf.Abstract
import Derived.Shelf.RegionOpen
import Derived.WalkKit
import Derived.OwnWalkIn
import Derived.TacticsInMore
import Derived.LoopNIn
import Derived.LoopIn
import Derived.Test.YtpjkcmmmpgncmaaM19
import Derived.Test.YtpjkcmmmpgncmaaM12
import Derived.Test.YtpjkcmmmpgncmaaM20
import Derived.Test.YtpjkcmmmpgncmaaM18
import Derived.Test.YtpjkcmmmpgncmaaRows
import Derived.Test.YtpjkcmmmpgncmaaM06
import Derived.Test.YtpjkcmmmpgncmaaM05
import Derived.Test.YtpjkcmmmpgncmaaM01
/- The program's VersDo. -/
namespace Go.Proofs.Ytpjkcmmmpgncmaa
open Go.RowKit
/-- an answer of a store and a truth value, in memory of one's own -/
def DoPost (w : World) (r : (Int × List Ver) × Bool) (e : Ending) (w' : World) : Prop :=
  ∃ v, e = .returned (.tuple #[.agg #[.int .i64 r.1.1, v], .bool r.2]) ∧ OwnV w' w.heap.size v r.1.2 ∧ Below w.heap.size w w'
end Go.Proofs.Ytpjkcmmmpgncmaa
/- What is done one behind the other: plain words. -/
namespace Go.Proofs.Ytpjkcmmmpgncmaa
open Go.RowKit
/-- all that is done, one behind the other -/
noncomputable def goF (now : Int) (l : List Ver) : List (List Wri) → (Int × List Ver) × Bool
  | [] => ((now, l), true)
  | r :: rs => if wrsB 20 r = true then (if versB (now + 1) (doS (now + 1) l r) = true then goF (now + 1) (doS (now + 1) l r) rs else ((0, []), false)) else ((0, []), false)
/-- the rows from the k-th on -/
def goK (rs : List Wrow) (k : Nat) (now : Int) (l : List Ver) : Prop := goF 0 [] (cont rs) = goF now l ((cont rs).drop k)
/-- what stands while rows are done: the answer so far, in its box -/
def PI (w : World) (g : Nat) (rs : List Wrow) (k : Nat) (now : Int) (A : Option Addr) (l : List Ver) (c : Nat) (W : World) : Prop :=
  goK rs k now l ∧ versB now l = true ∧ Blk W g 32 #[.int .i64 now, .slice A l.length c] ∧ Blk W w.heap.size 32 #[.int .i64 0, .slice none 0 0] ∧ OwnV W w.heap.size (.slice A l.length c) l ∧ Below w.heap.size w W ∧ FitsV l
theorem PI.below {w : World} {g : Nat} {rs : List Wrow} {k : Nat} {now : Int} {A : Option Addr} {l : List Ver} {c : Nat} {W W' : World} (h : PI w g rs k now A l c W) (hb : Below W.heap.size W W') : PI w g rs k now A l c W' := by
  obtain ⟨h1, h2, h3, h4, h5, h6, h7⟩ := h
  exact ⟨h1, h2, h3.kept hb, h4.kept hb, own_kept h5 hb, bthen h6 hb, h7⟩
end Go.Proofs.Ytpjkcmmmpgncmaa
