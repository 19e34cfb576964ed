import Derived.Lib.SmallJoins
import Derived.RangeFuncNested
import Derived.RangeFuncBound
import Derived.RangeFuncCalls
import Derived.RangeFuncLeaves
import Derived.RangeFuncWrites
import Derived.RangeFuncBox
import Derived.Shelf.Abstract
import Derived.Shelf.RegionOpen
import Derived.WalkKit
import Derived.OwnWalkIn
import Derived.TacticsInMore
import Derived.LoopNIn
import Derived.LoopIn
import Derived.Test.YtfmhhckkpenldaaGreatDoorM04
import Derived.Test.YtfmhhckkpenldaaGreatDoorM19
import Derived.Test.YtfmhhckkpenldaaGreatDoorVerB
import Derived.Test.YtfmhhckkpenldaaGreatDoorM10
import Derived.Test.YtfmhhckkpenldaaGreatDoorRows
/- The program's VersAt. -/
namespace Go.Proofs.YtfmhhckkpenldaaGreatDoor
open Go.RowKit Go.Shelf
attribute [local go_sem] Oper.semAt_some
open Classical in
def OwnR (w : World) (B : Nat) (v : Value) (R : List Row) : Prop := w.ownsRow B 83 2 v R.length (R.flatMap encRow)
theorem encRow_one (l : List Row) : ∀ u ∈ l.flatMap encRow, u.oneCell' = true := by
  intro u hu
  obtain ⟨x, _, hx⟩ := List.mem_flatMap.1 hu
  simp [encRow] at hx
  rcases hx with rfl | rfl <;> rfl
theorem slr_one {w : World} {g : Nat} {x : Row} (h : Blk w g 83 #[.string x.1, .int .i64 x.2]) : Sl encRow 2 w (some ⟨g, 0, none⟩) [x] := by
  intro _
  refine ⟨g, 0, rfl, h.lt, fun i j y hy hj => ?_⟩
  obtain ⟨rfl, rfl⟩ : i = 0 ∧ y = x := by
    cases i with
    | zero => simp at hy; exact ⟨rfl, hy.symm⟩
    | succ i => simp at hy
  simp only [Nat.zero_mul, Nat.zero_add]
  rw [h.cell]
  match j, hj with
  | 0, _ => rfl
  | 1, _ => rfl
theorem ownR_app {w : World} {B : Nat} {v : Value} {l m : List Row} (h : w.ownsRow B 83 2 v (l.length + m.length) (l.flatMap encRow ++ m.flatMap encRow)) : OwnR w B v (l ++ m) := by
  unfold OwnR; rw [List.length_append, List.flatMap_append]; exact h
theorem OwnR.sl {w : World} {B : Nat} {v : Value} {l : List Row} (h : OwnR w B v l) : ∃ A c, v = .slice A l.length c ∧ l.length ≤ c ∧ c ≤ maxLen ∧ Sl encRow 2 w A l := Sl.of_own encRow_len h
end Go.Proofs.YtfmhhckkpenldaaGreatDoor
/- The laws' helpers on rows of writes: their size, their copies. -/
namespace Go.Proofs.YtfmhhckkpenldaaGreatDoor
open Go.RowKit
theorem infoWri : (Tryz.prog.info? 79).map (fun i => (i.zero, i.size, i.bytes)) = some (some (.agg #[.string ⟨#[]⟩, .int .i64 0, .bool false]), 3, 32) := by kernel_rfl
end Go.Proofs.YtfmhhckkpenldaaGreatDoor
