/- The program's GramStep, whole. -/
import Derived.Test.YtbhocdmfmnlniaaDoorGrmC
namespace Go.Proofs.YtbhocdmfmnlniaaDoor
open Go.RowKit
set_option maxHeartbeats 400000 in
theorem inOther_any (x : Let) (w : World) :
    Calls Tryd.prog 38 #[.agg #[.string x.1, .string x.2]] w fun e w' => e = .returned (.int .i64 3) ∧ Below w.heap.size w w' := by
  go_enter Tryd.func38, Tryd.ntmps38
  go_wp2
  go_ret
  exact ⟨rfl, (Below.refl _ _).alloc (Nat.le_refl _) _⟩
def fnOf (st : Int) : Nat := if st = 0 then 36 else if st = 1 then 37 else 38
set_option maxHeartbeats 400000 in
theorem stateOf_any (st : Int) (w : World) :
    Calls Tryd.prog 22 #[.int .i64 st] w fun e w' => e = .returned (.func (.func (fnOf st)) #[] #[]) ∧ w = w' := by
  by_cases h0 : st = 0
  · subst h0
    go_enter Tryd.func22, Tryd.ntmps22
    go_wp2
    go_ret
    exact ⟨rfl, rfl⟩
  · by_cases h1 : st = 1
    · subst h1
      go_enter Tryd.func22, Tryd.ntmps22
      go_wp2
      go_ret
      exact ⟨rfl, rfl⟩
    · have e0 : (st == 0) = false := by simpa using h0
      have e1 : (st == 1) = false := by simpa using h1
      have HF := Lib.hid (show fnOf st = 38 by unfold fnOf; rw [if_neg h0, if_neg h1])
      clear h0 h1
      go_enter Tryd.func22, Tryd.ntmps22
      go_wp2
      go_ret
      exact ⟨by rw [HF.out]; rfl, rfl⟩
set_option maxHeartbeats 2000000 in
theorem implStep_any (st : Int) (x : Let) (w : World) (h1 : x.1.size ≤ maxLen) (h2 : x.2.size ≤ 1073741824) (hV : Env w) :
    Calls Tryd.prog 10 #[.int .i64 st, .agg #[.string x.1, .string x.2]] w fun e w' => e = .returned (.int .i64 (stepG st x)) ∧ Below w.heap.size w w' := by
  obtain ⟨x1, x2⟩ := x
  simp only at h1 h2 ⊢
  have h2' : x2.size ≤ maxLen := by unfold maxLen; omega
  have hb0 := (Below.refl w.heap.size w).alloc (Nat.le_refl _) (.cells #[.string x1, .string x2] 26)
  have HX := Lib.hid (Blk.new w 26 #[.string x1, .string x2])
  have HV := Lib.hid (hV.below hb0)
  clear hV
  cases hl : letB (x1, x2)
  · have HI := Lib.hid (show stepG st (x1, x2) = 3 by unfold stepG; rw [hl]; rfl)
    go_enter Tryd.func10, Tryd.ntmps10
    go_wp2_with (go_at_call 21; refine (implOk_any (x1, x2) _ h1 h2').mono ?_; rintro e w' ⟨rfl, hb⟩; rw [hl])
    go_ret
    exact ⟨ret_int (by rw [HI.out]), hb0.trans (hb.mono (by simp))⟩
  by_cases s0 : st = 0
  · subst s0
    have HI := Lib.hid (show stepG 0 (x1, x2) = idleS (x1, x2) by unfold stepG; rw [if_pos hl, if_pos rfl])
    have HF := Lib.hid (show fnOf 0 = 36 by unfold fnOf; rfl)
    go_enter Tryd.func10, Tryd.ntmps10
    go_wp2_with (go_at_call 21; refine (implOk_any (x1, x2) _ h1 h2').mono ?_; rintro e w' ⟨rfl, hb⟩; rw [hl])
    refine wp_region_below (by kernel_rfl) (by kernel_rfl) ?_
    iterate 5 (refine wpQuiet_step (fun K hK => ?_); go_simp; first | (apply Exists.intro; refine ⟨fun W hW => ?_, hK _ ?_⟩; (first | rfl | (go_at_call 22; exact quiet_id hW (HF.out ▸ stateOf_any 0 _)) | (go_at_call 36; exact quiet_call hW (Nat.le_refl _) (inIdle_any (x1, x2) _ h2 ((HV.out.below hb).below hW))) | (have hX1 := (HX.out.kept hb).kept hW; have y0 := hX1.at_ (i := 0) (by simp); have y1 := hX1.at_ (i := 1) (by simp); go_simp; rfl)); clear hK K) | (refine hK _ ?_; clear hK K))
    refine wpQuiet_nil ?_
    intro W hW
    go_wp2
    go_ret
    exact ⟨ret_int (by rw [HI.out]), (hb0.trans (hb.mono (by simp))).trans (hW.mono (by have := hb.size; simp at this; omega))⟩
  by_cases s1 : st = 1
  · subst s1
    have HI := Lib.hid (show stepG 1 (x1, x2) = rowsS (x1, x2) by unfold stepG; rw [if_pos hl, if_neg s0, if_pos rfl])
    have HF := Lib.hid (show fnOf 1 = 37 by unfold fnOf; rfl)
    go_enter Tryd.func10, Tryd.ntmps10
    go_wp2_with (go_at_call 21; refine (implOk_any (x1, x2) _ h1 h2').mono ?_; rintro e w' ⟨rfl, hb⟩; rw [hl])
    refine wp_region_below (by kernel_rfl) (by kernel_rfl) ?_
    iterate 5 (refine wpQuiet_step (fun K hK => ?_); go_simp; first | (apply Exists.intro; refine ⟨fun W hW => ?_, hK _ ?_⟩; (first | rfl | (go_at_call 22; exact quiet_id hW (HF.out ▸ stateOf_any 1 _)) | (go_at_call 37; exact quiet_call hW (Nat.le_refl _) (inRows_any (x1, x2) _ h2 ((HV.out.below hb).below hW))) | (have hX1 := (HX.out.kept hb).kept hW; have y0 := hX1.at_ (i := 0) (by simp); have y1 := hX1.at_ (i := 1) (by simp); go_simp; rfl)); clear hK K) | (refine hK _ ?_; clear hK K))
    refine wpQuiet_nil ?_
    intro W hW
    go_wp2
    go_ret
    exact ⟨ret_int (by rw [HI.out]), (hb0.trans (hb.mono (by simp))).trans (hW.mono (by have := hb.size; simp at this; omega))⟩
  · have HI := Lib.hid (show stepG st (x1, x2) = 3 by unfold stepG; rw [if_pos hl, if_neg s0, if_neg s1])
    have HF := Lib.hid (show fnOf st = 38 by unfold fnOf; rw [if_neg s0, if_neg s1])
    go_enter Tryd.func10, Tryd.ntmps10
    go_wp2_with (go_at_call 21; refine (implOk_any (x1, x2) _ h1 h2').mono ?_; rintro e w' ⟨rfl, hb⟩; rw [hl])
    refine wp_region_below (by kernel_rfl) (by kernel_rfl) ?_
    iterate 5 (refine wpQuiet_step (fun K hK => ?_); go_simp; first | (apply Exists.intro; refine ⟨fun W hW => ?_, hK _ ?_⟩; (first | rfl | (go_at_call 22; exact quiet_id hW (HF.out ▸ stateOf_any st _)) | (go_at_call 38; exact quiet_call hW (Nat.le_refl _) (inOther_any (x1, x2) _)) | (have hX1 := (HX.out.kept hb).kept hW; have y0 := hX1.at_ (i := 0) (by simp); have y1 := hX1.at_ (i := 1) (by simp); go_simp; rfl)); clear hK K) | (refine hK _ ?_; clear hK K))
    refine wpQuiet_nil ?_
    intro W hW
    go_wp2
    go_ret
    exact ⟨ret_int (by rw [HI.out]), (hb0.trans (hb.mono (by simp))).trans (hW.mono (by have := hb.size; simp at this; omega))⟩
end Go.Proofs.YtbhocdmfmnlniaaDoor
