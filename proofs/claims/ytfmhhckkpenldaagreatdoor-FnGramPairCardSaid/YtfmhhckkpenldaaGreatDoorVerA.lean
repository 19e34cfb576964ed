import Derived.Test.YtfmhhckkpenldaaGreatDoorM01
/- A version alone: whether it is right, whether it is visible at a time, whether it may stand ahead of another. -/
namespace Go.Proofs.YtfmhhckkpenldaaGreatDoor
open Go.RowKit
/-- a version: key, number, from, to -/
abbrev Ver : Type := ByteArray × Int × Int × Int
def encVer (x : Ver) : List Value := [.string x.1, .int .i64 x.2.1, .int .i64 x.2.2.1, .int .i64 x.2.2.2]
theorem encVer_len (x : Ver) : (encVer x).length = 4 := rfl
def verB (x : Ver) (now : Int) : Bool := keyB x.1 && numB x.2.1 && decide (1 ≤ x.2.2.1) && decide (x.2.2.1 ≤ now) && (decide (x.2.2.2 = 0) || (decide (x.2.2.1 < x.2.2.2) && decide (x.2.2.2 ≤ now)))
def visB (x : Ver) (t : Int) : Bool := decide (x.2.2.1 ≤ t) && (decide (x.2.2.2 = 0) || decide (t < x.2.2.2))
def ltB (a b : ByteArray) : Bool := Op.bytesLess a.toList b.toList
def aheadB (a b : Ver) : Bool := if a.1 ≠ b.1 then ltB a.1 b.1 else decide (0 < a.2.2.2) && decide (a.2.2.2 ≤ b.2.2.1)
set_option maxHeartbeats 1000000 in
theorem specVerOk_any (x : Ver) (now : Int) (w : World) (hs : x.1.size ≤ maxLen) :
    Calls Tryz.prog 60 #[.agg #[.string x.1, .int .i64 x.2.1, .int .i64 x.2.2.1, .int .i64 x.2.2.2], .int .i64 now] w fun e w' => e = .returned (.bool (verB x now)) ∧ Below w.heap.size w w' := by
  obtain ⟨k, n, fr, to⟩ := x
  simp only at hs ⊢
  have hbw : ∀ o, Below w.heap.size w (w.alloc o) := fun o => (Below.refl _ _).alloc (Nat.le_refl _) _
  go_enter Tryz.func60, Tryz.ntmps60
  go_wp2_with (first
    | (go_at_call 45; refine (specKeyOk_any _ _ hs).mono ?_; rintro e w' ⟨rfl, rfl⟩)
    | (go_at_call 46; refine (specNumOk_any _ _).mono ?_; rintro e w' ⟨rfl, rfl⟩))
  all_goals
    go_ret
    exact ⟨ret_bool (by unfold verB; simp_all <;> omega), hbw _⟩
set_option maxHeartbeats 1000000 in
theorem ahead_any (x y : Ver) (w : World) :
    Calls Tryz.prog 61 #[.agg #[.string x.1, .int .i64 x.2.1, .int .i64 x.2.2.1, .int .i64 x.2.2.2], .agg #[.string y.1, .int .i64 y.2.1, .int .i64 y.2.2.1, .int .i64 y.2.2.2]] w fun e w' => e = .returned (.bool (aheadB x y)) ∧ Below w.heap.size w w' := by
  obtain ⟨k, n, fr, to⟩ := x
  obtain ⟨k2, n2, fr2, to2⟩ := y
  simp only
  have hbw : ∀ o p, Below w.heap.size w ((w.alloc o).alloc p) := fun o p => ((Below.refl _ _).alloc (Nat.le_refl _) _).alloc (by simp) _
  go_enter Tryz.func61, Tryz.ntmps61
  go_wp2
  all_goals
    go_ret
    exact ⟨ret_bool (by unfold aheadB ltB; simp_all [bytes_beq] <;> omega), hbw _ _⟩
end Go.Proofs.YtfmhhckkpenldaaGreatDoor
