import Derived.Lib.SliceRun
import Derived.Test.YtfmhhckkpenldaaGreatDoorVerC
/- A store in new memory, the program's way. -/
namespace Go.Proofs.YtfmhhckkpenldaaGreatDoor
open Go.RowKit
theorem OwnV.le {w : World} {B B2 : Nat} {v : Value} {l : List Ver} (h : OwnV w B v l) (hB : B2 ≤ B) : OwnV w B2 v l := Go.Joins.ownsRow_le h hB
end Go.Proofs.YtfmhhckkpenldaaGreatDoor
