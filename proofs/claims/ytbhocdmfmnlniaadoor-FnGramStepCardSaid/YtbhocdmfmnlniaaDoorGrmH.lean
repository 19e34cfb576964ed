/- The reference's step. -/
import Derived.Test.YtbhocdmfmnlniaaDoorGrmG
namespace Go.Proofs.YtbhocdmfmnlniaaDoor
open Go.RowKit
set_option maxRecDepth 100000 in
set_option maxHeartbeats 8000000 in
theorem l9Step_any (st : Int) (x : Let) (w : World) (hs : x.2.size ≤ 1048576) (hst : st = 0 ∨ st = 1 ∨ st = 2 ∨ st = 3) :
    Calls Tryd.prog 20 #[.int .i64 st, .agg #[.string x.1, .string x.2]] w fun e w' => e = .returned (.int .i64 (stepS st x)) ∧ Below w.heap.size w w' := by
  obtain ⟨x1, x2⟩ := x
  simp only at hs ⊢
  have hb0 := (Below.refl w.heap.size w).alloc (Nat.le_refl _) (.cells #[.string x1, .string x2] 26)
  have HX := Lib.hid (Blk.new w 26 #[.string x1, .string x2])
  rcases hst with rfl | rfl | rfl | rfl
  · have HS := Lib.hid (show stepS 0 (x1, x2) = idleS (x1, x2) from rfl)
    cases hA : (x1.toList == [82])
    · cases hC : (x1.toList == [67])
      · have hr : rowsS (x1, x2) = 3 := by unfold rowsS; simp [hA, hC]
        have HV := Lib.hid (show idleS (x1, x2) = if (x1.toList == [69]) = true then (if failW x2 = true then 0 else 3)
          else if (x1.toList == [49]) = true then (if (x2.toList == []) = true then 0 else 3)
          else if (x1.toList == [90]) = true then (if (x2.toList == [105]) = true ∨ (x2.toList == [116]) = true ∨ (x2.toList == [101]) = true then 0 else 3)
          else if (x1.toList == [66]) = true then (if (x2.toList == []) = true then 2 else 3)
          else 3 by unfold idleS; rw [if_pos hr])
        clear hr
        go_enter Tryd.func20, Tryd.ntmps20
        go_wp2_with fail
        generalize w.alloc (.cells #[.string x1, .string x2] 26) = w0 at *
        have hbw := hb0
        have hXw := HX.out
        refine wp_region_below (by kernel_rfl) (by kernel_rfl) ?_
        iterate 10 (first | go_big_quiet_skip | (refine wpQuiet_step (fun K hK => ?_); go_simp; first | (apply Exists.intro; refine ⟨fun W hW => ?_, hK _ ?_⟩; (first | rfl | (have hX2 := hXw.kept hW; have e0 := hX2.at_ (i := 0) (by simp); have e1 := hX2.at_ (i := 1) (by simp); go_simp; rfl)); clear hK K) | (refine hK _ ?_; clear hK K)))
        refine wpQuiet_nil ?_
        intro W hW
        have hbw2 := hbw.trans (hW.mono hbw.size)
        have hX2 := hXw.kept hW
        have r0 := hX2.at_ (i := 0) (by simp)
        have r1 := hX2.at_ (i := 1) (by simp)
        clear hbw hXw hW
        go_wp2_with ((go_at_call 33; refine (word_any x2 _).mono ?_; rintro e w3 ⟨rfl, hb3⟩; have hX3 := hX2.kept hb3; have q0 := hX3.at_ (i := 0) (by simp); have q1 := hX3.at_ (i := 1) (by simp)))
        all_goals
          go_ret
          refine ⟨ret_int (by rw [HS.out, HV.out]; clear HS HV HX; simp_all), ?_⟩
          first | exact hbw2.trans (hb3.mono hbw2.size) | exact hbw2
      · cases hF : (x2.toList == (codeN 0).toList)
        · have hr : rowsS (x1, x2) = 3 := by unfold rowsS; simp [hA, hC, hF]
          have HV := Lib.hid (show idleS (x1, x2) = if (x1.toList == [69]) = true then (if failW x2 = true then 0 else 3)
            else if (x1.toList == [49]) = true then (if (x2.toList == []) = true then 0 else 3)
            else if (x1.toList == [90]) = true then (if (x2.toList == [105]) = true ∨ (x2.toList == [116]) = true ∨ (x2.toList == [101]) = true then 0 else 3)
            else if (x1.toList == [66]) = true then (if (x2.toList == []) = true then 2 else 3)
            else 3 by unfold idleS; rw [if_pos hr])
          clear hr
          go_enter Tryd.func20, Tryd.ntmps20
          go_wp2_with fail
          generalize w.alloc (.cells #[.string x1, .string x2] 26) = w0 at *
          have hbw := hb0
          have hXw := HX.out
          refine wp_region_below (by kernel_rfl) (by kernel_rfl) ?_
          iterate 10 (refine wpQuiet_step (fun K hK => ?_); go_simp; first | (apply Exists.intro; refine ⟨fun W hW => ?_, hK _ ?_⟩; (first | rfl | (go_at_call 32; exact quiet_call hW (Nat.le_refl _) (code_any 0 _ (by omega))) | (have hX2 := hXw.kept hW; have e0 := hX2.at_ (i := 0) (by simp); have e1 := hX2.at_ (i := 1) (by simp); go_simp; rfl)); clear hK K) | (refine hK _ ?_; clear hK K))
          refine wpQuiet_nil ?_
          intro W hW
          have hbw2 := hbw.trans (hW.mono hbw.size)
          have hX2 := hXw.kept hW
          have r0 := hX2.at_ (i := 0) (by simp)
          have r1 := hX2.at_ (i := 1) (by simp)
          clear hbw hXw hW
          have hC' : x1.toList = [67] := by simpa using hC
          go_wp2_with ((go_at_call 33; refine (word_any x2 _).mono ?_; rintro e w3 ⟨rfl, hb3⟩; have hX3 := hX2.kept hb3; have q0 := hX3.at_ (i := 0) (by simp); have q1 := hX3.at_ (i := 1) (by simp)))
          all_goals
            go_ret
            refine ⟨ret_int (by rw [HS.out, HV.out]; clear HS HV HX; simp_all), ?_⟩
            first | exact hbw2.trans (hb3.mono hbw2.size) | exact hbw2
        · have hr : rowsS (x1, x2) = 0 := by unfold rowsS; simp [hA, hC, hF]
          have HV := Lib.hid (show idleS (x1, x2) = 0 by unfold idleS; rw [hr]; rfl)
          clear hr
          go_enter Tryd.func20, Tryd.ntmps20
          go_wp2_with fail
          generalize w.alloc (.cells #[.string x1, .string x2] 26) = w0 at *
          have hbw := hb0
          have hXw := HX.out
          refine wp_region_below (by kernel_rfl) (by kernel_rfl) ?_
          iterate 10 (refine wpQuiet_step (fun K hK => ?_); go_simp; first | (apply Exists.intro; refine ⟨fun W hW => ?_, hK _ ?_⟩; (first | rfl | (go_at_call 32; exact quiet_call hW (Nat.le_refl _) (code_any 0 _ (by omega))) | (have hX2 := hXw.kept hW; have e0 := hX2.at_ (i := 0) (by simp); have e1 := hX2.at_ (i := 1) (by simp); go_simp; rfl)); clear hK K) | (refine hK _ ?_; clear hK K))
          refine wpQuiet_nil ?_
          intro W hW
          have hbw2 := hbw.trans (hW.mono hbw.size)
          have hX2 := hXw.kept hW
          have r0 := hX2.at_ (i := 0) (by simp)
          have r1 := hX2.at_ (i := 1) (by simp)
          clear hbw hXw hW
          go_wp2
          go_ret
          exact ⟨ret_int (by rw [HS.out, HV.out]), hbw2⟩
    · have hA' : x1.toList = [82] := by simpa using hA
      cases hg : rowG x2
      · have hr : rowsS (x1, x2) = 3 := by unfold rowsS; simp [hA', hg]
        have HV := Lib.hid (show idleS (x1, x2) = if (x1.toList == [69]) = true then (if failW x2 = true then 0 else 3)
          else if (x1.toList == [49]) = true then (if (x2.toList == []) = true then 0 else 3)
          else if (x1.toList == [90]) = true then (if (x2.toList == [105]) = true ∨ (x2.toList == [116]) = true ∨ (x2.toList == [101]) = true then 0 else 3)
          else if (x1.toList == [66]) = true then (if (x2.toList == []) = true then 2 else 3)
          else 3 by unfold idleS; rw [if_pos hr])
        clear hr
        go_enter Tryd.func20, Tryd.ntmps20
        go_wp2_with ((go_at_call 31; refine (l9Row_any x2 _ hs).mono ?_; rintro e w1 ⟨rfl, hb1⟩; rw [hg]; have hX1 := HX.out.kept hb1; have y0 := hX1.at_ (i := 0) (by simp); have y1 := hX1.at_ (i := 1) (by simp)))
        have hbw := hb0.trans (hb1.mono (by simp))
        have hXw := hX1
        refine wp_region_below (by kernel_rfl) (by kernel_rfl) ?_
        iterate 10 (first | go_big_quiet_skip | (refine wpQuiet_step (fun K hK => ?_); go_simp; first | (apply Exists.intro; refine ⟨fun W hW => ?_, hK _ ?_⟩; (first | rfl | (have hX2 := hXw.kept hW; have e0 := hX2.at_ (i := 0) (by simp); have e1 := hX2.at_ (i := 1) (by simp); go_simp; rfl)); clear hK K) | (refine hK _ ?_; clear hK K)))
        refine wpQuiet_nil ?_
        intro W hW
        have hbw2 := hbw.trans (hW.mono hbw.size)
        have hX2 := hXw.kept hW
        have r0 := hX2.at_ (i := 0) (by simp)
        have r1 := hX2.at_ (i := 1) (by simp)
        clear hbw hXw hW
        go_wp2_with ((go_at_call 33; refine (word_any x2 _).mono ?_; rintro e w3 ⟨rfl, hb3⟩; have hX3 := hX2.kept hb3; have q0 := hX3.at_ (i := 0) (by simp); have q1 := hX3.at_ (i := 1) (by simp)))
        all_goals
          go_ret
          refine ⟨ret_int (by rw [HS.out, HV.out]; clear HS HV HX; simp_all), ?_⟩
          first | exact hbw2.trans (hb3.mono hbw2.size) | exact hbw2
      · have hr : rowsS (x1, x2) = 1 := by unfold rowsS; simp [hA', hg]
        have HV := Lib.hid (show idleS (x1, x2) = 1 by unfold idleS; rw [hr]; rfl)
        clear hr
        go_enter Tryd.func20, Tryd.ntmps20
        go_wp2_with ((go_at_call 31; refine (l9Row_any x2 _ hs).mono ?_; rintro e w1 ⟨rfl, hb1⟩; rw [hg]; have hX1 := HX.out.kept hb1; have y0 := hX1.at_ (i := 0) (by simp); have y1 := hX1.at_ (i := 1) (by simp)))
        go_ret
        exact ⟨ret_int (by rw [HS.out, HV.out]), hb0.trans (hb1.mono (by simp))⟩
  · have HS := Lib.hid (show stepS 1 (x1, x2) = rowsS (x1, x2) from rfl)
    cases hA : (x1.toList == [82])
    · cases hC : (x1.toList == [67])
      · have hr : rowsS (x1, x2) = 3 := by unfold rowsS; simp [hA, hC]
        have HV := Lib.hid hr
        clear hr
        go_enter Tryd.func20, Tryd.ntmps20
        go_wp2_with fail
        generalize w.alloc (.cells #[.string x1, .string x2] 26) = w0 at *
        have hbw := hb0
        have hXw := HX.out
        refine wp_region_below (by kernel_rfl) (by kernel_rfl) ?_
        iterate 10 (first | go_big_quiet_skip | (refine wpQuiet_step (fun K hK => ?_); go_simp; first | (apply Exists.intro; refine ⟨fun W hW => ?_, hK _ ?_⟩; (first | rfl | (have hX2 := hXw.kept hW; have e0 := hX2.at_ (i := 0) (by simp); have e1 := hX2.at_ (i := 1) (by simp); go_simp; rfl)); clear hK K) | (refine hK _ ?_; clear hK K)))
        refine wpQuiet_nil ?_
        intro W hW
        have hbw2 := hbw.trans (hW.mono hbw.size)
        have hX2 := hXw.kept hW
        have r0 := hX2.at_ (i := 0) (by simp)
        have r1 := hX2.at_ (i := 1) (by simp)
        clear hbw hXw hW
        go_wp2
        go_ret
        exact ⟨ret_int (by rw [HS.out, HV.out]), hbw2⟩
      · cases hF : (x2.toList == (codeN 0).toList)
        · have hr : rowsS (x1, x2) = 3 := by unfold rowsS; simp [hA, hC, hF]
          have HV := Lib.hid hr
          clear hr
          go_enter Tryd.func20, Tryd.ntmps20
          go_wp2_with fail
          generalize w.alloc (.cells #[.string x1, .string x2] 26) = w0 at *
          have hbw := hb0
          have hXw := HX.out
          refine wp_region_below (by kernel_rfl) (by kernel_rfl) ?_
          iterate 10 (refine wpQuiet_step (fun K hK => ?_); go_simp; first | (apply Exists.intro; refine ⟨fun W hW => ?_, hK _ ?_⟩; (first | rfl | (go_at_call 32; exact quiet_call hW (Nat.le_refl _) (code_any 0 _ (by omega))) | (have hX2 := hXw.kept hW; have e0 := hX2.at_ (i := 0) (by simp); have e1 := hX2.at_ (i := 1) (by simp); go_simp; rfl)); clear hK K) | (refine hK _ ?_; clear hK K))
          refine wpQuiet_nil ?_
          intro W hW
          have hbw2 := hbw.trans (hW.mono hbw.size)
          have hX2 := hXw.kept hW
          have r0 := hX2.at_ (i := 0) (by simp)
          have r1 := hX2.at_ (i := 1) (by simp)
          clear hbw hXw hW
          go_wp2
          go_ret
          exact ⟨ret_int (by rw [HS.out, HV.out]), hbw2⟩
        · have hr : rowsS (x1, x2) = 0 := by unfold rowsS; simp [hA, hC, hF]
          have HV := Lib.hid hr
          clear hr
          go_enter Tryd.func20, Tryd.ntmps20
          go_wp2_with fail
          generalize w.alloc (.cells #[.string x1, .string x2] 26) = w0 at *
          have hbw := hb0
          have hXw := HX.out
          refine wp_region_below (by kernel_rfl) (by kernel_rfl) ?_
          iterate 10 (refine wpQuiet_step (fun K hK => ?_); go_simp; first | (apply Exists.intro; refine ⟨fun W hW => ?_, hK _ ?_⟩; (first | rfl | (go_at_call 32; exact quiet_call hW (Nat.le_refl _) (code_any 0 _ (by omega))) | (have hX2 := hXw.kept hW; have e0 := hX2.at_ (i := 0) (by simp); have e1 := hX2.at_ (i := 1) (by simp); go_simp; rfl)); clear hK K) | (refine hK _ ?_; clear hK K))
          refine wpQuiet_nil ?_
          intro W hW
          have hbw2 := hbw.trans (hW.mono hbw.size)
          have hX2 := hXw.kept hW
          have r0 := hX2.at_ (i := 0) (by simp)
          have r1 := hX2.at_ (i := 1) (by simp)
          clear hbw hXw hW
          go_wp2
          go_ret
          exact ⟨ret_int (by rw [HS.out, HV.out]), hbw2⟩
    · have hA' : x1.toList = [82] := by simpa using hA
      cases hg : rowG x2
      · have hr : rowsS (x1, x2) = 3 := by unfold rowsS; simp [hA', hg]
        have HV := Lib.hid hr
        clear hr
        go_enter Tryd.func20, Tryd.ntmps20
        go_wp2_with ((go_at_call 31; refine (l9Row_any x2 _ hs).mono ?_; rintro e w1 ⟨rfl, hb1⟩; rw [hg]; have hX1 := HX.out.kept hb1; have y0 := hX1.at_ (i := 0) (by simp); have y1 := hX1.at_ (i := 1) (by simp)))
        have hbw := hb0.trans (hb1.mono (by simp))
        have hXw := hX1
        refine wp_region_below (by kernel_rfl) (by kernel_rfl) ?_
        iterate 10 (first | go_big_quiet_skip | (refine wpQuiet_step (fun K hK => ?_); go_simp; first | (apply Exists.intro; refine ⟨fun W hW => ?_, hK _ ?_⟩; (first | rfl | (have hX2 := hXw.kept hW; have e0 := hX2.at_ (i := 0) (by simp); have e1 := hX2.at_ (i := 1) (by simp); go_simp; rfl)); clear hK K) | (refine hK _ ?_; clear hK K)))
        refine wpQuiet_nil ?_
        intro W hW
        have hbw2 := hbw.trans (hW.mono hbw.size)
        have hX2 := hXw.kept hW
        have r0 := hX2.at_ (i := 0) (by simp)
        have r1 := hX2.at_ (i := 1) (by simp)
        clear hbw hXw hW
        go_wp2
        go_ret
        exact ⟨ret_int (by rw [HS.out, HV.out]), hbw2⟩
      · have hr : rowsS (x1, x2) = 1 := by unfold rowsS; simp [hA', hg]
        have HV := Lib.hid hr
        clear hr
        go_enter Tryd.func20, Tryd.ntmps20
        go_wp2_with ((go_at_call 31; refine (l9Row_any x2 _ hs).mono ?_; rintro e w1 ⟨rfl, hb1⟩; rw [hg]; have hX1 := HX.out.kept hb1; have y0 := hX1.at_ (i := 0) (by simp); have y1 := hX1.at_ (i := 1) (by simp)))
        go_ret
        exact ⟨ret_int (by rw [HS.out, HV.out]), hb0.trans (hb1.mono (by simp))⟩
  · go_enter Tryd.func20, Tryd.ntmps20
    go_wp2
    go_ret
    exact ⟨rfl, hb0⟩
  · go_enter Tryd.func20, Tryd.ntmps20
    go_wp2
    go_ret
    exact ⟨rfl, hb0⟩
end Go.Proofs.YtbhocdmfmnlniaaDoor
