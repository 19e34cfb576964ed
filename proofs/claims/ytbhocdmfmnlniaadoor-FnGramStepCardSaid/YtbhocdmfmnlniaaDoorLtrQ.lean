/- The program's LetterOk. -/
import Derived.Test.YtbhocdmfmnlniaaDoorLtrL
namespace Go.Proofs.YtbhocdmfmnlniaaDoor
open Go.RowKit
set_option maxRecDepth 100000 in
set_option maxHeartbeats 1000000 in
theorem implOk_any (x : Let) (w : World) (h1 : x.1.size ≤ maxLen) (h2 : x.2.size ≤ maxLen) :
    Calls Tryd.prog 21 #[.agg #[.string x.1, .string x.2]] w fun e w' => e = .returned (.bool (letB x)) ∧ Below w.heap.size w w' := by
  obtain ⟨s, t⟩ := x
  simp only at h1 h2 ⊢
  unfold maxLen at h1 h2
  have hbw : Below w.heap.size w (w.alloc (.cells #[.string s, .string t] 26)) := (Below.refl _ _).alloc (Nat.le_refl _) _
  by_cases hs : s.size = 1
  · have hs' : ((s.size : Int) != 1) = false := by simp [hs]
    by_cases hg : sgnB (byt s 0) = true
    · by_cases ht : t.size ≤ 40
      · have HL := Lib.hid (show letB (s, t) = bodyOk t by unfold letB; simp [hs, hg, ht])
        have HG := Lib.hid hg
        have ht' : decide (40 < (t.size : Int)) = false := by simp; omega
        clear hg
        go_enter Tryd.func21, Tryd.ntmps21
        go_wp2_with fail
        rw [byt_eq s 0 (by omega)]
        refine (signOk_any _ _ (byt_lo _ _) (byt_hi _ _)).mono ?_
        rintro e w1 ⟨rfl, rfl⟩
        rw [HG.out]
        go_wp2
        go_loop [3] (fun i => ∃ k : Nat, k ≤ t.size ∧ i = .int .i64 k ∧ ∀ j, j < k → bodB (byt t j) = true) (fun i => t.size - (intOf i).toNat)
        case atStart => exact ⟨0, by omega, rfl, fun j hj => absurd hj (by omega)⟩
        case round =>
          obtain ⟨k, hk, rfl, hok⟩ := hrel
          have HK := Lib.hid hok
          clear hok
          by_cases hlt : k < t.size
          · go_wp2_with fail
            rw [byt_eq t k hlt]
            refine (bodyByteOk_any _ _ (byt_lo _ _) (byt_hi _ _)).mono ?_
            rintro e w2 ⟨rfl, rfl⟩
            by_cases hb : bodB (byt t k) = true
            · have HH := Lib.hid hb
              rw [hb]
              clear hb
              go_wp2
              go_round
              case rel => exact ⟨k + 1, by omega, by go_num, fun j hj => by
                by_cases h : j < k
                · exact HK.out j h
                · obtain rfl : j = k := by omega
                  exact HH.out⟩
              case measure => simp [intOf]; omega
            · have hb' : bodB (byt t k) = false := by simpa using hb
              have HH := Lib.hid hb'
              rw [hb']
              clear hb hb'
              go_wp2
              go_ret
              exact ⟨ret_bool (by rw [HL.out, bodyOk_no hlt HH.out]), hbw⟩
          · obtain rfl : k = t.size := by omega
            go_wp2
            go_ret
            exact ⟨ret_bool (by rw [HL.out, bodyOk_yes HK.out]), hbw⟩
      · have HL := Lib.hid (show letB (s, t) = false by unfold letB; simp [ht])
        have HG := Lib.hid hg
        have ht' : decide (40 < (t.size : Int)) = true := by simp; omega
        clear hg
        go_enter Tryd.func21, Tryd.ntmps21
        go_wp2_with fail
        rw [byt_eq s 0 (by omega)]
        refine (signOk_any _ _ (byt_lo _ _) (byt_hi _ _)).mono ?_
        rintro e w1 ⟨rfl, rfl⟩
        rw [HG.out]
        go_wp2
        go_ret
        exact ⟨ret_bool HL.out.symm, hbw⟩
    · have hg' : sgnB (byt s 0) = false := by simpa using hg
      have HL := Lib.hid (show letB (s, t) = false by unfold letB; simp [hg'])
      have HG := Lib.hid hg'
      clear hg hg'
      go_enter Tryd.func21, Tryd.ntmps21
      go_wp2_with fail
      rw [byt_eq s 0 (by omega)]
      refine (signOk_any _ _ (byt_lo _ _) (byt_hi _ _)).mono ?_
      rintro e w1 ⟨rfl, rfl⟩
      rw [HG.out]
      go_wp2
      go_ret
      exact ⟨ret_bool HL.out.symm, hbw⟩
  · have hs' : ((s.size : Int) != 1) = true := by simp; omega
    have HL := Lib.hid (show letB (s, t) = false by unfold letB; simp [hs])
    go_enter Tryd.func21, Tryd.ntmps21
    go_wp2
    go_ret
    exact ⟨ret_bool HL.out.symm, hbw⟩
end Go.Proofs.YtbhocdmfmnlniaaDoor
