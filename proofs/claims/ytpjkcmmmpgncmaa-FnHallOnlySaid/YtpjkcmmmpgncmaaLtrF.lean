import Derived.IntWalk
import Derived.Test.YtpjkcmmmpgncmaaM08
/- The reference's LetterTake returns the same. -/
namespace Go.Proofs.Ytpjkcmmmpgncmaa
open Go.RowKit
def headN (s : ByteArray) : Int := if 3 ≤ s.size ∧ okAt s 0 = true ∧ okAt s 1 = true ∧ okAt s 2 = true then szAt s 3 else 0
def headC (s : ByteArray) : Int := if (0 < s.size ∧ okAt s 0 = false) ∨ (1 < s.size ∧ okAt s 1 = false) ∨ (2 < s.size ∧ okAt s 2 = false) then 2 else if s.size < 3 then 1 else 0
theorem okAt_0 (s : ByteArray) : okAt s 0 = sgnB (byt s 0) := by simp [okAt, fitB]
theorem okAt_1 (s : ByteArray) : okAt s 1 = (digB (byt s 1) && decide ((byt s 1 - 48) * 10 ≤ 40)) := by simp [okAt, fitB, szAt]
theorem okAt_2 (s : ByteArray) : okAt s 2 = (digB (byt s 2) && decide ((byt s 1 - 48) * 10 + (byt s 2 - 48) ≤ 40)) := by simp [okAt, fitB, szAt]
theorem szAt_3 (s : ByteArray) : szAt s 3 = (byt s 1 - 48) * 10 + (byt s 2 - 48) := by simp [szAt]
set_option maxHeartbeats 1000000 in
theorem head_any (s : ByteArray) (w : World) (hs : s.size ≤ 4611686018427387904) :
    Calls Try.prog 194 #[.string s] w fun e w' => e = .returned (.tuple #[.int .i64 (headN s), .int .i64 (headC s)]) ∧ Below w.heap.size w w' := by
  have ok0 := okAt_0 s
  have ok1 := okAt_1 s
  have ok2 := okAt_2 s
  by_cases l0 : 0 < s.size
  · by_cases g0 : sgnB (byt s 0) = true
    · by_cases l1 : 1 < s.size
      · by_cases d1 : digB (byt s 1) = true
        · have g1 := digV_yes d1
          obtain ⟨g1a, g1b⟩ := digB_yes d1
          have n1 : decide (byt s 1 - 48 < 0) = false := by simp; omega
          by_cases l2 : 2 < s.size
          · by_cases d2 : digB (byt s 2) = true
            · have g2 := digV_yes d2
              obtain ⟨g2a, g2b⟩ := digB_yes d2
              have n2 : decide (byt s 2 - 48 < 0) = false := by simp; omega
              by_cases t1 : (byt s 1 - 48) * 10 ≤ 40
              · have m1 : decide (40 < (byt s 1 - 48) * 10) = false := by simp; omega
                by_cases t2 : (byt s 1 - 48) * 10 + (byt s 2 - 48) ≤ 40
                · have HH := Lib.hid (show headN s = (byt s 1 - 48) * 10 + (byt s 2 - 48) ∧ headC s = 0 by
                    unfold headN headC; rw [ok0, ok1, ok2, szAt_3]; simp [g0, d1, d2, t1, t2]; omega)
                  clear ok0 ok1 ok2 d1 d2
                  go_enter Try.func194, Try.ntmps194
                  go_wp2_with (first
                    | (go_at_call 161; rw [byt_eq s 0 l0]; refine (specSign_any _ _ (byt_lo _ _) (byt_hi _ _)).mono ?_; rintro e w' ⟨rfl, rfl⟩)
                    | (go_at_call 219; rw [byt_eq s 1 l1]; refine (specDigit_any _ _ (byt_lo _ _) (byt_hi _ _)).mono ?_; rintro e w' ⟨rfl, rfl⟩)
                    | (go_at_call 219; rw [byt_eq s 2 l2]; refine (specDigit_any _ _ (byt_lo _ _) (byt_hi _ _)).mono ?_; rintro e w' ⟨rfl, rfl⟩))
                  go_wp2_with fail
                  have wr1 : IntKind.i64.wrap ((byt s 1 - 48) * 10) = (byt s 1 - 48) * 10 := IntWalk.i64_in _ (by omega)
                  have wr2 : IntKind.i64.wrap ((byt s 1 - 48) * 10 + (byt s 2 - 48)) = (byt s 1 - 48) * 10 + (byt s 2 - 48) := by clear wr1; exact IntWalk.i64_in _ (by omega)
                  refine wp_region_below (by kernel_rfl) (by kernel_rfl) ?_
                  iterate 9 (refine wpQuiet_step (fun K hK => ?_); go_simp; first | (apply Exists.intro; refine ⟨fun W hW => ?_, hK _ ?_⟩; (first | rfl | (go_at_call 219; rw [byt_eq s 1 l1]; exact quiet_id hW (specDigit_any _ _ (byt_lo _ _) (byt_hi _ _))) | (go_at_call 219; rw [byt_eq s 2 l2]; exact quiet_id hW (specDigit_any _ _ (byt_lo _ _) (byt_hi _ _))) | (skip; go_simp; rfl)); clear hK K) | (refine hK _ ?_; clear hK K))
                  refine wpQuiet_nil ?_
                  intro W hW
                  clear wr1 wr2
                  go_wp2
                  go_ret2
                  exact ⟨by rw [HH.out.1, HH.out.2]; rfl, hW⟩
                · have HH := Lib.hid (show headN s = 0 ∧ headC s = 2 by
                    unfold headN headC; rw [ok0, ok1, ok2, szAt_3]; simp [g0, d1, d2, t1, t2]; omega)
                  clear ok0 ok1 ok2 d1 d2
                  go_enter Try.func194, Try.ntmps194
                  go_wp2_with (first
                    | (go_at_call 161; rw [byt_eq s 0 l0]; refine (specSign_any _ _ (byt_lo _ _) (byt_hi _ _)).mono ?_; rintro e w' ⟨rfl, rfl⟩)
                    | (go_at_call 219; rw [byt_eq s 1 l1]; refine (specDigit_any _ _ (byt_lo _ _) (byt_hi _ _)).mono ?_; rintro e w' ⟨rfl, rfl⟩)
                    | (go_at_call 219; rw [byt_eq s 2 l2]; refine (specDigit_any _ _ (byt_lo _ _) (byt_hi _ _)).mono ?_; rintro e w' ⟨rfl, rfl⟩))
                  go_wp2_with fail
                  have wr1 : IntKind.i64.wrap ((byt s 1 - 48) * 10) = (byt s 1 - 48) * 10 := IntWalk.i64_in _ (by omega)
                  have wr2 : IntKind.i64.wrap ((byt s 1 - 48) * 10 + (byt s 2 - 48)) = (byt s 1 - 48) * 10 + (byt s 2 - 48) := by clear wr1; exact IntWalk.i64_in _ (by omega)
                  refine wp_region_below (by kernel_rfl) (by kernel_rfl) ?_
                  iterate 9 (refine wpQuiet_step (fun K hK => ?_); go_simp; first | (apply Exists.intro; refine ⟨fun W hW => ?_, hK _ ?_⟩; (first | rfl | (go_at_call 219; rw [byt_eq s 1 l1]; exact quiet_id hW (specDigit_any _ _ (byt_lo _ _) (byt_hi _ _))) | (go_at_call 219; rw [byt_eq s 2 l2]; exact quiet_id hW (specDigit_any _ _ (byt_lo _ _) (byt_hi _ _))) | (skip; go_simp; rfl)); clear hK K) | (refine hK _ ?_; clear hK K))
                  refine wpQuiet_nil ?_
                  intro W hW
                  clear wr1 wr2
                  go_wp2
                  go_ret2
                  exact ⟨by rw [HH.out.1, HH.out.2]; rfl, hW⟩
              · have m1 : decide (40 < (byt s 1 - 48) * 10) = true := by simp; omega
                have HH := Lib.hid (show headN s = 0 ∧ headC s = 2 by
                  unfold headN headC; rw [ok0, ok1, ok2]; simp [g0, d1, d2, t1]; omega)
                clear ok0 ok1 ok2 d1 d2
                go_enter Try.func194, Try.ntmps194
                go_wp2_with (first
                  | (go_at_call 161; rw [byt_eq s 0 l0]; refine (specSign_any _ _ (byt_lo _ _) (byt_hi _ _)).mono ?_; rintro e w' ⟨rfl, rfl⟩)
                  | (go_at_call 219; rw [byt_eq s 1 l1]; refine (specDigit_any _ _ (byt_lo _ _) (byt_hi _ _)).mono ?_; rintro e w' ⟨rfl, rfl⟩)
                  | (go_at_call 219; rw [byt_eq s 2 l2]; refine (specDigit_any _ _ (byt_lo _ _) (byt_hi _ _)).mono ?_; rintro e w' ⟨rfl, rfl⟩))
                all_goals
                  go_ret2
                  exact ⟨by rw [HH.out.1, HH.out.2]; rfl, Below.refl _ _⟩
            · have d2' : digB (byt s 2) = false := by simpa using d2
              have g2 := digV_no d2'
              have HH := Lib.hid (show headN s = 0 ∧ headC s = 2 by
                unfold headN headC; rw [ok0, ok1, ok2]; simp [g0, d1, d2']; omega)
              clear ok0 ok1 ok2 d1 d2 d2'
              go_enter Try.func194, Try.ntmps194
              go_wp2_with (first
                | (go_at_call 161; rw [byt_eq s 0 l0]; refine (specSign_any _ _ (byt_lo _ _) (byt_hi _ _)).mono ?_; rintro e w' ⟨rfl, rfl⟩)
                | (go_at_call 219; rw [byt_eq s 1 l1]; refine (specDigit_any _ _ (byt_lo _ _) (byt_hi _ _)).mono ?_; rintro e w' ⟨rfl, rfl⟩)
                | (go_at_call 219; rw [byt_eq s 2 l2]; refine (specDigit_any _ _ (byt_lo _ _) (byt_hi _ _)).mono ?_; rintro e w' ⟨rfl, rfl⟩))
              all_goals
                go_ret2
                exact ⟨by rw [HH.out.1, HH.out.2]; rfl, Below.refl _ _⟩
          · have b2 : decide (2 < (s.size : Int)) = false := by simp; omega
            by_cases t1 : (byt s 1 - 48) * 10 ≤ 40
            · have m1 : decide (40 < (byt s 1 - 48) * 10) = false := by simp; omega
              have HH := Lib.hid (show headN s = 0 ∧ headC s = 1 by
                unfold headN headC; rw [ok0, ok1, ok2]; simp [g0, d1, t1]; omega)
              clear ok0 ok1 ok2 d1
              go_enter Try.func194, Try.ntmps194
              go_wp2_with (first
                | (go_at_call 161; rw [byt_eq s 0 l0]; refine (specSign_any _ _ (byt_lo _ _) (byt_hi _ _)).mono ?_; rintro e w' ⟨rfl, rfl⟩)
                | (go_at_call 219; rw [byt_eq s 1 l1]; refine (specDigit_any _ _ (byt_lo _ _) (byt_hi _ _)).mono ?_; rintro e w' ⟨rfl, rfl⟩)
                | (go_at_call 219; rw [byt_eq s 2 l2]; refine (specDigit_any _ _ (byt_lo _ _) (byt_hi _ _)).mono ?_; rintro e w' ⟨rfl, rfl⟩))
              all_goals
                go_ret2
                exact ⟨by rw [HH.out.1, HH.out.2]; rfl, Below.refl _ _⟩
            · have m1 : decide (40 < (byt s 1 - 48) * 10) = true := by simp; omega
              have HH := Lib.hid (show headN s = 0 ∧ headC s = 2 by
                unfold headN headC; rw [ok0, ok1, ok2]; simp [g0, d1, t1]; omega)
              clear ok0 ok1 ok2 d1
              go_enter Try.func194, Try.ntmps194
              go_wp2_with (first
                | (go_at_call 161; rw [byt_eq s 0 l0]; refine (specSign_any _ _ (byt_lo _ _) (byt_hi _ _)).mono ?_; rintro e w' ⟨rfl, rfl⟩)
                | (go_at_call 219; rw [byt_eq s 1 l1]; refine (specDigit_any _ _ (byt_lo _ _) (byt_hi _ _)).mono ?_; rintro e w' ⟨rfl, rfl⟩)
                | (go_at_call 219; rw [byt_eq s 2 l2]; refine (specDigit_any _ _ (byt_lo _ _) (byt_hi _ _)).mono ?_; rintro e w' ⟨rfl, rfl⟩))
              all_goals
                go_ret2
                exact ⟨by rw [HH.out.1, HH.out.2]; rfl, Below.refl _ _⟩
        · have d1' : digB (byt s 1) = false := by simpa using d1
          have g1 := digV_no d1'
          have HH := Lib.hid (show headN s = 0 ∧ headC s = 2 by
            unfold headN headC; rw [ok0, ok1, ok2]; simp [g0, d1']; omega)
          clear ok0 ok1 ok2 d1 d1'
          go_enter Try.func194, Try.ntmps194
          go_wp2_with (first
            | (go_at_call 161; rw [byt_eq s 0 l0]; refine (specSign_any _ _ (byt_lo _ _) (byt_hi _ _)).mono ?_; rintro e w' ⟨rfl, rfl⟩)
            | (go_at_call 219; rw [byt_eq s 1 l1]; refine (specDigit_any _ _ (byt_lo _ _) (byt_hi _ _)).mono ?_; rintro e w' ⟨rfl, rfl⟩)
            | (go_at_call 219; rw [byt_eq s 2 l2]; refine (specDigit_any _ _ (byt_lo _ _) (byt_hi _ _)).mono ?_; rintro e w' ⟨rfl, rfl⟩))
          all_goals
            go_ret2
            exact ⟨by rw [HH.out.1, HH.out.2]; rfl, Below.refl _ _⟩
      · have b1 : decide (1 < (s.size : Int)) = false := by simp; omega
        have b2 : decide (2 < (s.size : Int)) = false := by simp; omega
        have HH := Lib.hid (show headN s = 0 ∧ headC s = 1 by
          unfold headN headC; rw [ok0, ok1, ok2]; simp [g0]; omega)
        clear ok0 ok1 ok2
        go_enter Try.func194, Try.ntmps194
        go_wp2_with (first
          | (go_at_call 161; rw [byt_eq s 0 l0]; refine (specSign_any _ _ (byt_lo _ _) (byt_hi _ _)).mono ?_; rintro e w' ⟨rfl, rfl⟩)
          | (go_at_call 219; rw [byt_eq s 1 l1]; refine (specDigit_any _ _ (byt_lo _ _) (byt_hi _ _)).mono ?_; rintro e w' ⟨rfl, rfl⟩)
          | (go_at_call 219; rw [byt_eq s 2 l2]; refine (specDigit_any _ _ (byt_lo _ _) (byt_hi _ _)).mono ?_; rintro e w' ⟨rfl, rfl⟩))
        all_goals
          go_ret2
          exact ⟨by rw [HH.out.1, HH.out.2]; rfl, Below.refl _ _⟩
    · have g0' : sgnB (byt s 0) = false := by simpa using g0
      have HH := Lib.hid (show headN s = 0 ∧ headC s = 2 by
        unfold headN headC; rw [ok0, ok1, ok2]; constructor
        · rw [if_neg]; rintro ⟨_, h, _⟩; rw [h] at g0'; cases g0'
        · rw [if_pos (.inl ⟨l0, g0'⟩)])
      clear ok0 ok1 ok2 g0
      go_enter Try.func194, Try.ntmps194
      go_wp2_with (first
        | (go_at_call 161; rw [byt_eq s 0 l0]; refine (specSign_any _ _ (byt_lo _ _) (byt_hi _ _)).mono ?_; rintro e w' ⟨rfl, rfl⟩)
        | (go_at_call 219; rw [byt_eq s 1 l1]; refine (specDigit_any _ _ (byt_lo _ _) (byt_hi _ _)).mono ?_; rintro e w' ⟨rfl, rfl⟩)
        | (go_at_call 219; rw [byt_eq s 2 l2]; refine (specDigit_any _ _ (byt_lo _ _) (byt_hi _ _)).mono ?_; rintro e w' ⟨rfl, rfl⟩))
      all_goals
        go_ret2
        exact ⟨by rw [HH.out.1, HH.out.2]; rfl, Below.refl _ _⟩
  · have b0 : decide (0 < s.size) = false := by simpa using l0
    have b1 : decide (1 < (s.size : Int)) = false := by simp; omega
    have b2 : decide (2 < (s.size : Int)) = false := by simp; omega
    have HH := Lib.hid (show headN s = 0 ∧ headC s = 1 by
      unfold headN headC; constructor
      · rw [if_neg]; rintro ⟨h, _⟩; omega
      · rw [if_neg, if_pos (by omega)]; rintro (⟨h, _⟩ | ⟨h, _⟩ | ⟨h, _⟩) <;> omega)
    clear ok0 ok1 ok2
    go_enter Try.func194, Try.ntmps194
    go_wp2_with (first
      | (go_at_call 161; rw [byt_eq s 0 l0]; refine (specSign_any _ _ (byt_lo _ _) (byt_hi _ _)).mono ?_; rintro e w' ⟨rfl, rfl⟩)
      | (go_at_call 219; rw [byt_eq s 1 l1]; refine (specDigit_any _ _ (byt_lo _ _) (byt_hi _ _)).mono ?_; rintro e w' ⟨rfl, rfl⟩)
      | (go_at_call 219; rw [byt_eq s 2 l2]; refine (specDigit_any _ _ (byt_lo _ _) (byt_hi _ _)).mono ?_; rintro e w' ⟨rfl, rfl⟩))
    all_goals
      go_ret2
      exact ⟨by rw [HH.out.1, HH.out.2]; rfl, Below.refl _ _⟩
end Go.Proofs.Ytpjkcmmmpgncmaa
