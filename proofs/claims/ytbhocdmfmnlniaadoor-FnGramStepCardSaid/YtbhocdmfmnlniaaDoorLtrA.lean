/- Small contracts of the letters' chapter: which bytes may stand where. -/
import Derived.Test.YtbhocdmfmnlniaaDoorRows
import Derived.Test.YtbhocdmfmnlniaaDoorLib
import Derived.BigGuardPart
namespace Go.Proofs.YtbhocdmfmnlniaaDoor
open Go.RowKit
def digB (c : Int) : Bool := decide (48 ≤ c ∧ c ≤ 57)
def sgnB (c : Int) : Bool := decide ((65 ≤ c ∧ c ≤ 90) ∨ (48 ≤ c ∧ c ≤ 57))
def bodB (c : Int) : Bool := decide (32 ≤ c ∧ c ≤ 126)
def digV (c : Int) : Int := if 48 ≤ c ∧ c ≤ 57 then c - 48 else -1
theorem digB_yes {c : Int} (h : digB c = true) : 48 ≤ c ∧ c ≤ 57 := by unfold digB at h; simpa using h
theorem digB_no {c : Int} (h : digB c = false) : c < 48 ∨ 57 < c := by unfold digB at h; simp at h; omega
theorem digV_yes {c : Int} (h : digB c = true) : digV c = c - 48 := by unfold digV; rw [if_pos (digB_yes h)]
theorem digV_no {c : Int} (h : digB c = false) : digV c = -1 := by unfold digV; rw [if_neg (by have := digB_no h; omega)]
set_option maxHeartbeats 400000 in
theorem digitOk_any (c : Int) (w : World) (h0 : 0 ≤ c) (h1 : c ≤ 255) :
    Calls Tryd.prog 47 #[.int .u8 c] w fun e w' => e = .returned (.bool (digB c)) ∧ w = w' := by
  by_cases a : 48 ≤ c <;> by_cases b : c ≤ 57
  all_goals
    go_enter Tryd.func47, Tryd.ntmps47
    go_wp2
    go_ret
    exact ⟨ret_bool (by unfold digB; simp <;> omega), rfl⟩
set_option maxHeartbeats 400000 in
theorem bodyByteOk_any (c : Int) (w : World) (h0 : 0 ≤ c) (h1 : c ≤ 255) :
    Calls Tryd.prog 35 #[.int .u8 c] w fun e w' => e = .returned (.bool (bodB c)) ∧ w = w' := by
  by_cases a : 32 ≤ c <;> by_cases b : c ≤ 126
  all_goals
    go_enter Tryd.func35, Tryd.ntmps35
    go_wp2
    go_ret
    exact ⟨ret_bool (by unfold bodB; simp <;> omega), rfl⟩
set_option maxHeartbeats 400000 in
theorem specBody_any (c : Int) (w : World) (h0 : 0 ≤ c) (h1 : c ≤ 255) :
    Calls Tryd.prog 30 #[.int .u8 c] w fun e w' => e = .returned (.bool (bodB c)) ∧ w = w' := by
  by_cases a : 32 ≤ c <;> by_cases b : c ≤ 126
  all_goals
    go_enter Tryd.func30, Tryd.ntmps30
    go_wp2
    go_ret
    exact ⟨ret_bool (by unfold bodB; simp <;> omega), rfl⟩
set_option maxHeartbeats 400000 in
theorem signOk_any (c : Int) (w : World) (h0 : 0 ≤ c) (h1 : c ≤ 255) :
    Calls Tryd.prog 34 #[.int .u8 c] w fun e w' => e = .returned (.bool (sgnB c)) ∧ w = w' := by
  by_cases a : 65 ≤ c <;> by_cases b : c ≤ 90
  all_goals
    have hd : sgnB c = true ∨ sgnB c = digB c := by unfold sgnB digB; by_cases h : 65 ≤ c ∧ c ≤ 90 <;> simp [h]
    go_enter Tryd.func34, Tryd.ntmps34
    clear hd
    go_wp2_with (go_at_call 47; refine (digitOk_any c _ h0 h1).mono ?_; rintro e w' ⟨rfl, rfl⟩)
    go_ret
    exact ⟨ret_bool (by unfold sgnB; (try unfold digB); simp <;> omega), rfl⟩
set_option maxHeartbeats 400000 in
theorem specSign_any (c : Int) (w : World) (h0 : 0 ≤ c) (h1 : c ≤ 255) :
    Calls Tryd.prog 29 #[.int .u8 c] w fun e w' => e = .returned (.bool (sgnB c)) ∧ w = w' := by
  by_cases a : 65 ≤ c <;> by_cases b : c ≤ 90 <;> by_cases a2 : 48 ≤ c <;> by_cases b2 : c ≤ 57
  all_goals first
    | (exfalso; omega)
    | (go_enter Tryd.func29, Tryd.ntmps29
       go_wp2
       go_ret
       exact ⟨ret_bool (by unfold sgnB; simp <;> omega), rfl⟩)
set_option maxHeartbeats 400000 in
theorem specDigit_any (c : Int) (w : World) (h0 : 0 ≤ c) (h1 : c ≤ 255) :
    Calls Tryd.prog 51 #[.int .u8 c] w fun e w' => e = .returned (.int .i64 (digV c)) ∧ w = w' := by
  by_cases a : c < 48 <;> by_cases b : 57 < c
  all_goals first
    | (exfalso; omega)
    | (go_enter Tryd.func51, Tryd.ntmps51
       go_wp2
       go_ret
       exact ⟨ret_int (by unfold digV; split <;> omega), rfl⟩)
end Go.Proofs.YtbhocdmfmnlniaaDoor
