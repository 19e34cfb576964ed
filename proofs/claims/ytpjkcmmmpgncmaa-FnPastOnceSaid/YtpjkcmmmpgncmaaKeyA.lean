/- What is a key, what is a number that may be stored: the program's and the reference's tests. -/
import Derived.Test.YtpjkcmmmpgncmaaRows
import Derived.Test.YtpjkcmmmpgncmaaLib
import Derived.BigGuardPart
namespace Go.Proofs.Ytpjkcmmmpgncmaa
open Go.RowKit
/-- byte i of s, 0 behind its end -/
def kbyt (s : ByteArray) (i : Nat) : Int := ((s.data.getD i 0).toNat : Int)
theorem kbyt_eq (s : ByteArray) (i : Nat) (h : i < s.size) : ((s[i].toNat : Nat) : Int) = kbyt s i := by
  unfold kbyt; rw [Array.getD_eq_getD_getElem?, Array.getElem?_eq_getElem (by simpa using h)]; rfl
def keyB (k : ByteArray) : Bool := decide ((k.size = 1 ∨ k.size = 2) ∧ ∀ i, i < k.size → 97 ≤ kbyt k i ∧ kbyt k i ≤ 122)
def numB (n : Int) : Bool := decide (-999 ≤ n ∧ n ≤ 999)
theorem keyB_bad {k : ByteArray} {j : Nat} (hj : j < k.size) (h : kbyt k j < 97 ∨ 122 < kbyt k j) : keyB k = false := by
  unfold keyB; simp only [decide_eq_false_iff_not]
  intro ⟨_, h2⟩
  have := h2 j hj
  omega
theorem keyB_size {k : ByteArray} (h : keyB k = true) : k.size ≤ 2 := by unfold keyB at h; simp at h; omega
set_option maxHeartbeats 400000 in
theorem implKeyOk_any (k : ByteArray) (w : World) (hs : k.size ≤ maxLen) :
    Calls Try.prog 110 #[.string k] w fun e w' => e = .returned (.bool (keyB k)) ∧ w = w' := by
  unfold maxLen at hs
  by_cases h1 : k.size = 1 ∨ k.size = 2
  · have H1 := Lib.hid h1
    have h0 : (((k.size : Int) != 1) = false) ∨ ((((k.size : Int) != 1) = true) ∧ (((k.size : Int) != 2) = false)) := by
      rcases h1 with h | h
      · exact .inl (by simp [h])
      · exact .inr ⟨by simp [h], by simp [h]⟩
    clear h1
    rcases h0 with h0 | ⟨h0, h0'⟩
    all_goals
      go_enter Try.func110, Try.ntmps110
      go_wp2
      go_loop [3] (fun i => ∃ j : Nat, j ≤ k.size ∧ i = .int .i64 j ∧ ∀ m, m < j → 97 ≤ kbyt k m ∧ kbyt k m ≤ 122) (fun i => k.size - (intOf i).toNat)
      case atStart => exact ⟨0, by omega, rfl, fun m h => by omega⟩
      case round =>
        obtain ⟨j, hj, rfl, hall⟩ := hrel
        have HA := Lib.hid hall
        clear hall
        by_cases hlt : j < k.size
        · have hby := kbyt_eq k j hlt
          have HB := Lib.hid hby
          clear hby
          go_wp2
          · have h : ((k[j].toNat : Nat) : Int) < 97 := by assumption
            have hB := HB.out
            go_ret
            exact ⟨ret_bool (keyB_bad hlt (.inl (by omega))).symm, rfl⟩
          · have h : 122 < ((k[j].toNat : Nat) : Int) := by assumption
            have hB := HB.out
            go_ret
            exact ⟨ret_bool (keyB_bad hlt (.inr (by omega))).symm, rfl⟩
          · have h : ¬ ((k[j].toNat : Nat) : Int) < 97 := by assumption
            have h' : ((k[j].toNat : Nat) : Int) ≤ 122 := by assumption
            have hB := HB.out
            go_round
            case rel => exact ⟨j + 1, by omega, by go_num, fun m hm => by
              by_cases hmj : m < j
              · exact HA.out m hmj
              · obtain rfl : m = j := by omega
                omega⟩
            case measure => simp [intOf]; omega
        · obtain rfl : j = k.size := by omega
          go_wp2
          go_ret
          exact ⟨ret_bool (by unfold keyB; simp only [Bool.true_eq, decide_eq_true_eq]; exact ⟨H1.out, HA.out⟩), rfl⟩
  · have e1 : (((k.size : Int) != 1) = true) := by simp; omega
    have e2 : (((k.size : Int) != 2) = true) := by simp; omega
    have H1 := Lib.hid h1
    clear h1
    go_enter Try.func110, Try.ntmps110
    go_wp2
    go_ret
    exact ⟨ret_bool (by unfold keyB; simp only [Bool.false_eq, decide_eq_false_iff_not]; exact fun h => H1.out h.1), rfl⟩
set_option maxHeartbeats 400000 in
theorem specKeyOk_any (k : ByteArray) (w : World) (hs : k.size ≤ maxLen) :
    Calls Try.prog 104 #[.string k] w fun e w' => e = .returned (.bool (keyB k)) ∧ w = w' := by
  unfold maxLen at hs
  go_enter Try.func104, Try.ntmps104
  go_wp2
  go_loop [3] (fun i => ∃ j : Nat, j ≤ k.size ∧ i = .int .i64 j ∧ ∀ m, m < j → 97 ≤ kbyt k m ∧ kbyt k m ≤ 122) (fun i => k.size - (intOf i).toNat)
  case atStart => exact ⟨0, by omega, rfl, fun m h => by omega⟩
  case round =>
    obtain ⟨j, hj, rfl, hall⟩ := hrel
    have HA := Lib.hid hall
    clear hall
    by_cases hlt : j < k.size
    · have hby := kbyt_eq k j hlt
      have HB := Lib.hid hby
      clear hby
      go_wp2
      · have h : ((k[j].toNat : Nat) : Int) < 97 := by assumption
        have hB := HB.out
        go_ret
        exact ⟨ret_bool (keyB_bad hlt (.inl (by omega))).symm, rfl⟩
      · have h : 122 < ((k[j].toNat : Nat) : Int) := by assumption
        have hB := HB.out
        go_ret
        exact ⟨ret_bool (keyB_bad hlt (.inr (by omega))).symm, rfl⟩
      · have h : ¬ ((k[j].toNat : Nat) : Int) < 97 := by assumption
        have h' : ((k[j].toNat : Nat) : Int) ≤ 122 := by assumption
        have hB := HB.out
        go_round
        case rel => exact ⟨j + 1, by omega, by go_num, fun m hm => by
          by_cases hmj : m < j
          · exact HA.out m hmj
          · obtain rfl : m = j := by omega
            omega⟩
        case measure => simp [intOf]; omega
    · obtain rfl : j = k.size := by omega
      by_cases h1 : 1 ≤ k.size <;> by_cases h2 : k.size ≤ 2
      · have d1 : decide (1 ≤ (k.size : Int)) = true := by simp; omega
        have d2 : decide ((k.size : Int) ≤ 2) = true := by simp; omega
        go_wp2
        go_ret
        exact ⟨ret_bool (by unfold keyB; simp only [Bool.true_eq, decide_eq_true_eq]; exact ⟨by omega, HA.out⟩), rfl⟩
      all_goals
        have hk : keyB k = false := by unfold keyB; simp only [decide_eq_false_iff_not]; intro h; omega
        have HK := Lib.hid hk
        clear hk
      · have d1 : decide (1 ≤ (k.size : Int)) = true := by simp; omega
        have d2 : decide ((k.size : Int) ≤ 2) = false := by simp; omega
        go_wp2
        go_ret
        exact ⟨ret_bool HK.out.symm, rfl⟩
      · have d1 : decide (1 ≤ (k.size : Int)) = false := by simp; omega
        go_wp2
        go_ret
        exact ⟨ret_bool HK.out.symm, rfl⟩
      · omega
set_option maxHeartbeats 400000 in
theorem implNumOk_any (n : Int) (w : World) :
    Calls Try.prog 111 #[.int .i64 n] w fun e w' => e = .returned (.bool (numB n)) ∧ w = w' := by
  by_cases a : -999 ≤ n <;> by_cases b : n ≤ 999
  all_goals
    go_enter Try.func111, Try.ntmps111
    go_wp2
    go_ret
    exact ⟨ret_bool (by unfold numB; simp <;> omega), rfl⟩
set_option maxHeartbeats 400000 in
theorem specNumOk_any (n : Int) (w : World) :
    Calls Try.prog 105 #[.int .i64 n] w fun e w' => e = .returned (.bool (numB n)) ∧ w = w' := by
  by_cases a : -999 ≤ n <;> by_cases b : n ≤ 999
  all_goals
    go_enter Try.func105, Try.ntmps105
    go_wp2
    go_ret
    exact ⟨ret_bool (by unfold numB; simp <;> omega), rfl⟩
end Go.Proofs.Ytpjkcmmmpgncmaa
