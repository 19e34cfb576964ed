import Derived.Laws.CopyOwn
import Derived.Lib.AppendZerosOnto
import Derived.Lib.Overlaps
import Derived.Test.YtfmhhckkpenldaaGreatDoorVerC
import Derived.Test.YtfmhhckkpenldaaGreatDoorM04
/- slices.Insert of one version into a row of the call's own. -/
namespace Go.Proofs.YtfmhhckkpenldaaGreatDoor
open Go.RowKit
theorem flat_split (l : List Ver) (e : Nat) : l.flatMap encVer = (l.take e).flatMap encVer ++ (l.drop e).flatMap encVer := by
  rw [← List.flatMap_append, List.take_append_drop]
theorem ins_flat (l : List Ver) (e : Nat) (x : Ver) : (l.take e ++ x :: l.drop e).flatMap encVer = (l.take e).flatMap encVer ++ (encVer x ++ (l.drop e).flatMap encVer) := by simp
end Go.Proofs.YtfmhhckkpenldaaGreatDoor
