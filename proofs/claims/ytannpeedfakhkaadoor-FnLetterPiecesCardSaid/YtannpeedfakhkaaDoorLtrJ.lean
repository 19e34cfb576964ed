/- The reference's LetterAll. -/
import Derived.Test.YtannpeedfakhkaaDoorLtrI
namespace Go.Proofs.YtannpeedfakhkaaDoor
open Go.RowKit
set_option maxHeartbeats 1000000 in
theorem specAll_any (s : ByteArray) (w : World) (hs : s.size ≤ 1073741824) :
    Calls Tryd.prog 15 #[.string s] w (allPost2 s w) := by
  by_cases h4 : s.size ≤ 400
  · have HP := Lib.hid (show ∀ e w', AllPost s w e w' → allPost2 s w e w' from fun e w' h => by unfold allPost2; rw [if_pos h4]; exact h)
    have h4' : decide (400 < (s.size : Int)) = false := by simp; omega
    clear h4
    obtain ⟨i0, hi, hz0, hz1, hz2⟩ := info_parts infoLet
    have HI := Lib.hid (⟨hi, hz0, hz1, hz2⟩ : _ ∧ _ ∧ _ ∧ _)
    clear hi hz0 hz1 hz2
    go_enter Tryd.func15, Tryd.ntmps15
    go_wp2
    go_loopw [0, 5] (fun r v wr => ∃ (t : ByteArray) (l : List Let), r = .string t ∧ t.size + l.length ≤ s.size ∧ allF s.size s = (l ++ allL t, allR t, allC t) ∧ wr.ownsRow w.heap.size 23 2 v l.length (l.flatMap encLet) ∧ Below w.heap.size w wr) (fun r _ _ => strLen r)
    case atStart => exact ⟨s, [], rfl, by simp, rfl, own_of_blk (Blk.new w 23 #[]) (Nat.le_refl _) (by simp [maxLen]) (by simp) (by simp), (Below.refl _ _).alloc (Nat.le_refl _) _⟩
    case round =>
      obtain ⟨t, l, rfl, hsz, hal, hown, hb⟩ := hrel
      have HA := Lib.hid hal
      clear hal
      go_wp2_with fail
      · have ht : 0 < t.size := by assumption
        refine (specTake_any t wr (by omega)).mono ?_
        rintro e w1 ⟨rfl, hb1⟩
        by_cases hc : takeC t = 0
        · have hbd := takeN_bound t hc
          have HS := Lib.hid (all_step ht hc)
          have hown1 := ((own_kept hown hb1).alloc (.cells #[.string (takeL t).1, .string (takeL t).2] 23)).alloc (.cells #[.string (takeL t).1, .string (takeL t).2] 23)
          have hnew := new_cells (w1.alloc (.cells #[.string (takeL t).1, .string (takeL t).2] 23)) [.string (takeL t).1, .string (takeL t).2] 23
          rw [World.size_alloc] at hnew
          have hll : l.length ≤ 1073741824 := by omega
          have hbs := hb1.size
          have hbs2 := hb.size
          generalize hx : takeL t = x at *
          have HX := Lib.hid hx
          clear hx
          rw [hc]
          have hc' : (takeN t : Int) ≤ t.size := by omega
          clear hc
          go_wp2_with (at_builtin; refine wpList_append_own _ rfl (.tmp 28) (.tmp 30) 28 rfl w.heap.size 23 i0 _ 2 32 Tryd.underlying28 HI.out.1 HI.out.2.1 HI.out.2.2.1 HI.out.2.2.2 rfl (by decide) u5 l.length (l.flatMap encLet) rfl hown1 ⟨w1.heap.size + 1, 0, none⟩ 1 1 [.string x.1, .string x.2] rfl rfl hnew (by simp [Value.oneCell']) (by unfold maxLen; omega) (by omega) (by simp; omega) ?_; intro v' w2 hown2 hgrow _)
          have hb2 := (((hb.trans (hb1.mono hbs2)).alloc (by omega) (.cells #[.string x.1, .string x.2] 23)).alloc (by simp; omega) (.cells #[.string x.1, .string x.2] 23)).grown hgrow (by simp; omega) (fun j hj => (hown.lt j hj).1)
          go_roundw
          case rel =>
            refine ⟨_, l ++ [x], rfl, by simp; omega, ?_, by simpa [List.flatMap_append, encLet] using hown2, hb2⟩
            have h1 := HS.out
            rw [HA.out]
            show (l ++ (allF t.size t).1, (allF t.size t).2.1, (allF t.size t).2.2) = _
            rw [h1]; simp
          case measure => simp [strLen]; omega
        · have HS := Lib.hid (all_stop ht hc)
          have hc' : (((takeC t : Nat) : Int) != 0) = true := by simpa using hc
          clear hc
          go_wp2
          have h1 := HA.out
          have e1 : allL t = [] := by unfold allL; rw [HS.out]
          have e2 : allR t = t := by unfold allR; rw [HS.out]
          have e3 : allC t = takeC t := by unfold allC; rw [HS.out]
          have r1 : allR s = t := by unfold allR; rw [h1]; exact e2
          have r2 : allC s = takeC t := by unfold allC; rw [h1]; exact e3
          have r0 : allL s = l := by show (allF s.size s).1 = l; rw [h1, e1]; simp
          have hbs := hb1.size
          have hbs2 := hb.size
          have hb3 := (hb.trans (hb1.mono hbs2)).alloc (by omega) (.cells #[.string (takeL t).1, .string (takeL t).2] 23)
          have hP := HP.out (.returned (.tuple #[u5, .string (allR s), .int .i64 (allC s)])) _ ⟨u5, rfl, by rw [r0]; exact (own_kept hown hb1).alloc _, hb3⟩
          rw [r1, r2] at hP
          go_ret3
          exact hP
      · have ht : t.size = 0 := by omega
        have HS := Lib.hid (all_nil ht)
        go_wp2
        have h1 := HA.out
        have e1 : allL t = [] := by unfold allL; rw [HS.out]
        have e2 : allR t = bEmpty := by unfold allR; rw [HS.out]
        have e3 : allC t = 0 := by unfold allC; rw [HS.out]
        have r1 : allR s = bEmpty := by unfold allR; rw [h1]; exact e2
        have r2 : allC s = 0 := by unfold allC; rw [h1]; exact e3
        have r0 : allL s = l := by show (allF s.size s).1 = l; rw [h1, e1]; simp
        have hP := HP.out (.returned (.tuple #[u5, .string (allR s), .int .i64 (allC s)])) _ ⟨u5, rfl, by rw [r0]; exact hown, hb⟩
        rw [r1, r2] at hP
        go_ret3
        exact hP
  · have HP := Lib.hid (show ∀ e w', (∃ v, e = .returned (.tuple #[v, .string bEmpty, .int .i64 2]) ∧ w'.ownsRow w.heap.size 23 2 v 0 [] ∧ Below w.heap.size w w') → allPost2 s w e w' from fun e w' h => by unfold allPost2; rw [if_neg h4]; exact h)
    have h4' : decide (400 < (s.size : Int)) = true := by simp; omega
    clear h4
    go_enter Tryd.func15, Tryd.ntmps15
    go_wp2
    go_ret3
    exact HP.out _ _ ⟨_, rfl, own_of_blk (Blk.new w 23 #[]) (Nat.le_refl _) (by simp [maxLen]) (by simp) (by simp), (Below.refl _ _).alloc (Nat.le_refl _) _⟩
end Go.Proofs.YtannpeedfakhkaaDoor
