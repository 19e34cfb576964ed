/- The reference's LetterOk and LetterText, and the small texts they are made of. -/
import Derived.Test.YtbhocdmfmnlniaaDoorLtrH
import Derived.Test.YtbhocdmfmnlniaaDoorMark
namespace Go.Proofs.YtbhocdmfmnlniaaDoor
open Go.RowKit
set_option maxRecDepth 100000 in
set_option maxHeartbeats 400000 in
theorem many_any (s : ByteArray) (n : Nat) (w : World) (hs : s.size ≤ 4) (hn : n ≤ 200) :
    Calls Tryd.prog 50 #[.string s, .int .i64 n] w fun e w' => ∃ t : ByteArray, e = .returned (.string t) ∧ t.size ≤ 800 ∧ w' = w := by
  go_enter Tryd.func50, Tryd.ntmps50
  go_wp2
  go_loop [0, 1, 5] (fun a b o => ∃ (t r : ByteArray) (m : Nat), a = .string t ∧ b = .int .i64 m ∧ o = .string r ∧ m ≤ 200 ∧ r.size + m * t.size ≤ 800 ∧ t.size ≤ 1600) (fun _ b _ => (intOf b).toNat)
  case atStart => exact ⟨s, _, n, rfl, rfl, rfl, hn, by
    have : n * s.size ≤ 200 * 4 := Nat.mul_le_mul hn hs
    show 0 + n * s.size ≤ 800
    omega, by omega⟩
  case round =>
    obtain ⟨t, r, m, rfl, rfl, rfl, hm, hsz, ht⟩ := hrel
    by_cases h0 : 0 < m
    · have ht8 : t.size ≤ 800 := by
        have : 1 * t.size ≤ m * t.size := Nat.mul_le_mul_right _ h0
        omega
      by_cases h1 : m % 2 = 1
      · have e1 : r.size + t.size + m / 2 * (t.size + t.size) = r.size + m * t.size := by
          have : m * t.size = (2 * (m / 2) + 1) * t.size := by congr 1; omega
          rw [this, Nat.add_mul, Nat.mul_add, Nat.mul_assoc]; omega
        have hmm := Nat.zero_le (m / 2 * (t.size + t.size))
        have HE := Lib.hid e1
        have HS := Lib.hid hsz
        have hr : r.size + t.size ≤ 800 := by omega
        have h1' : ((m : Int) % 2 == 1) = true := by simp; omega
        clear e1 hsz hmm h1
        go_wp2
        go_round
        case rel => exact ⟨t ++ t, r ++ t, m / 2, rfl, by go_num, rfl, by omega, by
          rw [ByteArray.size_append, ByteArray.size_append, HE.out]; exact HS.out, by rw [ByteArray.size_append]; omega⟩
        case measure => simp [intOf]; omega
      · have e1 : r.size + m / 2 * (t.size + t.size) = r.size + m * t.size := by
          have : m * t.size = (2 * (m / 2)) * t.size := by congr 1; omega
          rw [this, Nat.mul_add, Nat.mul_assoc]; omega
        have HE := Lib.hid e1
        have HS := Lib.hid hsz
        have h1' : ((m : Int) % 2 == 1) = false := by simp; omega
        clear e1 hsz h1
        go_wp2
        go_round
        case rel => exact ⟨t ++ t, r, m / 2, rfl, by go_num, rfl, by omega, by
          rw [ByteArray.size_append, HE.out]; exact HS.out, by rw [ByteArray.size_append]; omega⟩
        case measure => simp [intOf]; omega
    · obtain rfl : m = 0 := by omega
      clear hm
      go_wp2
      go_ret
      exact ⟨r, rfl, by omega, rfl⟩
/-- one digit -/
def d1 (n : Nat) : ByteArray := ⟨#[UInt8.ofNat (48 + n)]⟩
theorem d1_size (n : Nat) : (d1 n).size = 1 := rfl
/-- a number below 100 in two digits -/
def twoD (n : Nat) : ByteArray := d1 (n / 10) ++ d1 (n % 10)
theorem twoD_size (n : Nat) : (twoD n).size = 2 := by unfold twoD; simp [d1_size]
end Go.Proofs.YtbhocdmfmnlniaaDoor
