import Derived.IntWalk
import Derived.RegionTactic
import Derived.ChangeAlike
import Derived.Test.YtfmhhckkpenldaaGreatDoorRows
import Derived.Laws.IdiomStrings
import Derived.Laws.BytesString
import Derived.Test.YtfmhhckkpenldaaGreatDoorM04
import Derived.Test.YtfmhhckkpenldaaGreatDoorM19
/- The reference's LetterOk and LetterText, and the small texts they are made of. -/
namespace Go.Proofs.YtfmhhckkpenldaaGreatDoor
open Go.RowKit
set_option maxRecDepth 100000 in
set_option maxHeartbeats 400000 in
theorem many_any (s : ByteArray) (n : Nat) (w : World) (hs : s.size ≤ 4) (hn : n ≤ 200) :
    Calls Tryz.prog 53 #[.string s, .int .i64 n] w fun e w' => ∃ t : ByteArray, e = .returned (.string t) ∧ t.size ≤ 800 ∧ w' = w := by
  go_enter Tryz.func53, Tryz.ntmps53
  go_wp2
  go_loop [0, 1, 5] (fun a b o => ∃ (t r : ByteArray) (m : Nat), a = .string t ∧ b = .int .i64 m ∧ o = .string r ∧ m ≤ 200 ∧ r.size + m * t.size ≤ 800 ∧ t.size ≤ 1600) (fun _ b _ => (intOf b).toNat)
  case atStart => exact ⟨s, _, n, rfl, rfl, rfl, hn, by
    have : n * s.size ≤ 200 * 4 := Nat.mul_le_mul hn hs
    show 0 + n * s.size ≤ 800
    omega, by omega⟩
  case round =>
    obtain ⟨t, r, m, rfl, rfl, rfl, hm, hsz, ht⟩ := hrel
    by_cases h0 : 0 < m
    · have ht8 : t.size ≤ 800 := by
        have : 1 * t.size ≤ m * t.size := Nat.mul_le_mul_right _ h0
        omega
      by_cases h1 : m % 2 = 1
      · have e1 : r.size + t.size + m / 2 * (t.size + t.size) = r.size + m * t.size := by
          have : m * t.size = (2 * (m / 2) + 1) * t.size := by congr 1; omega
          rw [this, Nat.add_mul, Nat.mul_add, Nat.mul_assoc]; omega
        have hmm := Nat.zero_le (m / 2 * (t.size + t.size))
        have HE := Lib.hid e1
        have HS := Lib.hid hsz
        have hr : r.size + t.size ≤ 800 := by omega
        have h1' : ((m : Int) % 2 == 1) = true := by simp; omega
        clear e1 hsz hmm h1
        go_wp2
        go_round
        case rel => exact ⟨t ++ t, r ++ t, m / 2, rfl, by go_num, rfl, by omega, by
          rw [ByteArray.size_append, ByteArray.size_append, HE.out]; exact HS.out, by rw [ByteArray.size_append]; omega⟩
        case measure => simp [intOf]; omega
      · have e1 : r.size + m / 2 * (t.size + t.size) = r.size + m * t.size := by
          have : m * t.size = (2 * (m / 2)) * t.size := by congr 1; omega
          rw [this, Nat.mul_add, Nat.mul_assoc]; omega
        have HE := Lib.hid e1
        have HS := Lib.hid hsz
        have h1' : ((m : Int) % 2 == 1) = false := by simp; omega
        clear e1 hsz h1
        go_wp2
        go_round
        case rel => exact ⟨t ++ t, r, m / 2, rfl, by go_num, rfl, by omega, by
          rw [ByteArray.size_append, HE.out]; exact HS.out, by rw [ByteArray.size_append]; omega⟩
        case measure => simp [intOf]; omega
    · obtain rfl : m = 0 := by omega
      clear hm
      go_wp2
      go_ret
      exact ⟨r, rfl, by omega, rfl⟩
/-- one digit -/
def d1 (n : Nat) : ByteArray := ⟨#[UInt8.ofNat (48 + n)]⟩
end Go.Proofs.YtfmhhckkpenldaaGreatDoor
/- The reference's LetterOk and LetterText. -/
namespace Go.Proofs.YtfmhhckkpenldaaGreatDoor
open Go.RowKit
def bodyOk (s : ByteArray) : Bool := decide (∀ j, j < s.size → bodB (byt s j) = true)
theorem bodyOk_yes {s : ByteArray} (h : ∀ j, j < s.size → bodB (byt s j) = true) : bodyOk s = true := by unfold bodyOk; simpa using h
theorem bodyOk_no {s : ByteArray} {j : Nat} (h : j < s.size) (hb : bodB (byt s j) = false) : bodyOk s = false := by
  unfold bodyOk; simp only [decide_eq_false_iff_not]; intro h2; rw [h2 j h] at hb; cases hb
/-- a letter that is one -/
def letB (x : Let) : Bool := decide (x.1.size = 1) && sgnB (byt x.1 0) && decide (x.2.size ≤ 40) && bodyOk x.2
set_option maxRecDepth 100000 in
set_option maxHeartbeats 1000000 in
theorem specOk_any (x : Let) (w : World) (h1 : x.1.size ≤ maxLen) (h2 : x.2.size ≤ maxLen) :
    Calls Tryz.prog 19 #[.agg #[.string x.1, .string x.2]] w fun e w' => e = .returned (.bool (letB x)) ∧ Below w.heap.size w w' := by
  obtain ⟨s, t⟩ := x
  simp only at h1 h2 ⊢
  unfold maxLen at h1 h2
  have hbw : Below w.heap.size w (w.alloc (.cells #[.string s, .string t] 31)) := (Below.refl _ _).alloc (Nat.le_refl _) _
  by_cases hs : s.size = 1
  · have hs' : ((s.size : Int) != 1) = false := by simp [hs]
    by_cases hg : sgnB (byt s 0) = true
    · by_cases ht : t.size ≤ 40
      · have HL := Lib.hid (show letB (s, t) = bodyOk t by unfold letB; simp [hs, hg, ht])
        have HG := Lib.hid hg
        have ht' : decide (40 < (t.size : Int)) = false := by simp; omega
        clear hg
        go_enter Tryz.func19, Tryz.ntmps19
        go_wp2_with fail
        rw [byt_eq s 0 (by omega)]
        refine (specSign_any _ _ (byt_lo _ _) (byt_hi _ _)).mono ?_
        rintro e w1 ⟨rfl, rfl⟩
        rw [HG.out]
        go_wp2
        go_loop [3] (fun i => ∃ k : Nat, k ≤ t.size ∧ i = .int .i64 k ∧ ∀ j, j < k → bodB (byt t j) = true) (fun i => t.size - (intOf i).toNat)
        case atStart => exact ⟨0, by omega, rfl, fun j hj => absurd hj (by omega)⟩
        case round =>
          obtain ⟨k, hk, rfl, hok⟩ := hrel
          have HK := Lib.hid hok
          clear hok
          by_cases hlt : k < t.size
          · go_wp2_with fail
            rw [byt_eq t k hlt]
            refine (specBody_any _ _ (byt_lo _ _) (byt_hi _ _)).mono ?_
            rintro e w2 ⟨rfl, rfl⟩
            by_cases hb : bodB (byt t k) = true
            · have HH := Lib.hid hb
              rw [hb]
              clear hb
              go_wp2
              go_round
              case rel => exact ⟨k + 1, by omega, by go_num, fun j hj => by
                by_cases h : j < k
                · exact HK.out j h
                · obtain rfl : j = k := by omega
                  exact HH.out⟩
              case measure => simp [intOf]; omega
            · have hb' : bodB (byt t k) = false := by simpa using hb
              have HH := Lib.hid hb'
              rw [hb']
              clear hb hb'
              go_wp2
              go_ret
              exact ⟨ret_bool (by rw [HL.out, bodyOk_no hlt HH.out]), hbw⟩
          · obtain rfl : k = t.size := by omega
            go_wp2
            go_ret
            exact ⟨ret_bool (by rw [HL.out, bodyOk_yes HK.out]), hbw⟩
      · have HL := Lib.hid (show letB (s, t) = false by unfold letB; simp [ht])
        have HG := Lib.hid hg
        have ht' : decide (40 < (t.size : Int)) = true := by simp; omega
        clear hg
        go_enter Tryz.func19, Tryz.ntmps19
        go_wp2_with fail
        rw [byt_eq s 0 (by omega)]
        refine (specSign_any _ _ (byt_lo _ _) (byt_hi _ _)).mono ?_
        rintro e w1 ⟨rfl, rfl⟩
        rw [HG.out]
        go_wp2
        go_ret
        exact ⟨ret_bool HL.out.symm, hbw⟩
    · have hg' : sgnB (byt s 0) = false := by simpa using hg
      have HL := Lib.hid (show letB (s, t) = false by unfold letB; simp [hg'])
      have HG := Lib.hid hg'
      clear hg hg'
      go_enter Tryz.func19, Tryz.ntmps19
      go_wp2_with fail
      rw [byt_eq s 0 (by omega)]
      refine (specSign_any _ _ (byt_lo _ _) (byt_hi _ _)).mono ?_
      rintro e w1 ⟨rfl, rfl⟩
      rw [HG.out]
      go_wp2
      go_ret
      exact ⟨ret_bool HL.out.symm, hbw⟩
  · have hs' : ((s.size : Int) != 1) = true := by simp; omega
    have HL := Lib.hid (show letB (s, t) = false by unfold letB; simp [hs])
    go_enter Tryz.func19, Tryz.ntmps19
    go_wp2
    go_ret
    exact ⟨ret_bool HL.out.symm, hbw⟩
end Go.Proofs.YtfmhhckkpenldaaGreatDoor
