/- The program's GramStep. -/
import Derived.Test.YtbhocdmfmnlniaaDoorGrmB
namespace Go.Proofs.YtbhocdmfmnlniaaDoor
open Go.RowKit
set_option maxRecDepth 100000 in
set_option maxHeartbeats 2000000 in
theorem inIdle_any (x : Let) (w : World) (hs : x.2.size ≤ 1073741824) (hV : Env w) :
    Calls Tryd.prog 36 #[.agg #[.string x.1, .string x.2]] w fun e w' => e = .returned (.int .i64 (idleS x)) ∧ Below w.heap.size w w' := by
  obtain ⟨x1, x2⟩ := x
  simp only at hs ⊢
  have hb0 := (Below.refl w.heap.size w).alloc (Nat.le_refl _) (.cells #[.string x1, .string x2] 26)
  have HX := Lib.hid (Blk.new w 26 #[.string x1, .string x2])
  have HV := Lib.hid (hV.below hb0)
  clear hV
  rcases rowsS_cases (x1, x2) with hr | hr | hr
  · have HI := Lib.hid (show idleS (x1, x2) = 0 by unfold idleS; rw [hr]; simp)
    go_enter Tryd.func36, Tryd.ntmps36
    go_wp2_with (go_at_call 37; refine (inRows_any (x1, x2) _ hs HV.out).mono ?_; rintro e w' ⟨rfl, hb⟩; rw [hr])
    go_ret
    exact ⟨ret_int (by rw [HI.out]), hb0.trans (hb.mono (by simp))⟩
  · have HI := Lib.hid (show idleS (x1, x2) = 1 by unfold idleS; rw [hr]; simp)
    go_enter Tryd.func36, Tryd.ntmps36
    go_wp2_with (go_at_call 37; refine (inRows_any (x1, x2) _ hs HV.out).mono ?_; rintro e w' ⟨rfl, hb⟩; rw [hr])
    go_ret
    exact ⟨ret_int (by rw [HI.out]), hb0.trans (hb.mono (by simp))⟩
  · have HI := Lib.hid (show idleS (x1, x2) = if (x1.toList == [69]) = true then (if failW x2 = true then 0 else 3)
        else if (x1.toList == [49]) = true then (if (x2.toList == []) = true then 0 else 3)
        else if (x1.toList == [90]) = true then (if (x2.toList == [105]) = true ∨ (x2.toList == [116]) = true ∨ (x2.toList == [101]) = true then 0 else 3)
        else if (x1.toList == [66]) = true then (if (x2.toList == []) = true then 2 else 3)
        else 3 by unfold idleS; rw [if_pos hr])
    go_enter Tryd.func36, Tryd.ntmps36
    go_wp2_with (first
      | (go_at_call 37; refine (inRows_any (x1, x2) _ hs HV.out).mono ?_; rintro e w' ⟨rfl, hb⟩; rw [hr]; have hX1 := HX.out.kept hb; have y0 := hX1.at_ (i := 0) (by simp); have y1 := hX1.at_ (i := 1) (by simp))
      | (go_at_call 48; refine (failure_any _ _ (HV.out.below hb)).mono ?_; rintro e w'' ⟨rfl, rfl⟩))
    all_goals
      go_ret
      exact ⟨ret_int (by rw [HI.out]; clear HI HX HV; simp_all), hb0.trans (hb.mono (by simp))⟩
/-- how it stands behind a letter, from whatever state -/
def stepG (st : Int) (x : Let) : Int := if letB x = true then (if st = 0 then idleS x else if st = 1 then rowsS x else 3) else 3
end Go.Proofs.YtbhocdmfmnlniaaDoor
