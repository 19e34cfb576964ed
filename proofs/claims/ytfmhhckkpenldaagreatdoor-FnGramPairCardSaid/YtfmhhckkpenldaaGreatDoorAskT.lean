import Derived.BigQuiet
import Derived.Test.YtfmhhckkpenldaaGreatDoorRows
import Derived.Laws.IdiomStrings
import Derived.Laws.BytesString
import Derived.Test.YtfmhhckkpenldaaGreatDoorTkS
import Derived.Test.YtfmhhckkpenldaaGreatDoorM01
import Derived.Test.YtfmhhckkpenldaaGreatDoorM19
import Derived.Test.YtfmhhckkpenldaaGreatDoorM04
/- The reference on what one asks: its shape, its word; names, the letters that tell how one stands. -/
namespace Go.Proofs.YtfmhhckkpenldaaGreatDoor
open Go.RowKit
/-- whether what one asks has a key, a second one, and a number -/
def shapeK (k : Int) : Bool × Bool × Bool := if k = 1 ∨ k = 6 then (true, false, false) else if k = 2 ∨ k = 3 then (true, true, false) else if k = 4 ∨ k = 5 then (true, false, true) else (false, false, false)
set_option maxRecDepth 100000 in
set_option maxHeartbeats 2000000 in
theorem l4Shape_any (k : Int) (w : World) :
    Calls Tryz.prog 72 #[.int .i64 k] w fun e w' => e = .returned (.tuple #[.bool (shapeK k).1, .bool (shapeK k).2.1, .bool (shapeK k).2.2]) ∧ Below w.heap.size w w' := by
  by_cases h1 : k = 1
  · subst h1
    go_enter Tryz.func72, Tryz.ntmps72
    go_wp2
    go_ret3
    exact ⟨rfl, Below.refl _ _⟩
  by_cases h6 : k = 6
  · subst h6
    go_enter Tryz.func72, Tryz.ntmps72
    go_wp2
    go_ret3
    exact ⟨rfl, Below.refl _ _⟩
  by_cases h2 : k = 2
  · subst h2
    go_enter Tryz.func72, Tryz.ntmps72
    go_wp2
    go_ret3
    exact ⟨rfl, Below.refl _ _⟩
  by_cases h3 : k = 3
  · subst h3
    go_enter Tryz.func72, Tryz.ntmps72
    go_wp2
    go_ret3
    exact ⟨rfl, Below.refl _ _⟩
  by_cases h4 : k = 4
  · subst h4
    go_enter Tryz.func72, Tryz.ntmps72
    go_wp2
    go_ret3
    exact ⟨rfl, Below.refl _ _⟩
  by_cases h5 : k = 5
  · subst h5
    go_enter Tryz.func72, Tryz.ntmps72
    go_wp2
    go_ret3
    exact ⟨rfl, Below.refl _ _⟩
  have e : shapeK k = (false, false, false) := by unfold shapeK; rw [if_neg (by omega), if_neg (by omega), if_neg (by omega)]
  have HE := Lib.hid e
  have d1 : (k == 1) = false := by simpa using h1
  have d2 : (k == 2) = false := by simpa using h2
  have d3 : (k == 3) = false := by simpa using h3
  have d4 : (k == 4) = false := by simpa using h4
  have d5 : (k == 5) = false := by simpa using h5
  have d6 : (k == 6) = false := by simpa using h6
  clear e h1 h2 h3 h4 h5 h6
  go_enter Tryz.func72, Tryz.ntmps72
  go_wp2
  go_ret3
  exact ⟨by rw [HE.out]; rfl, Below.refl _ _⟩
set_option maxRecDepth 100000 in
set_option maxHeartbeats 2000000 in
theorem l4Word_any (k : Nat) (w : World) (hk : k ≤ 9) :
    Calls Tryz.prog 73 #[.int .i64 k] w fun e w' => ∃ s : ByteArray, e = .returned (.string s) ∧ s.size ≤ 5 ∧ Below w.heap.size w w' := by
  rcases (show k = 0 ∨ k = 1 ∨ k = 2 ∨ k = 3 ∨ k = 4 ∨ k = 5 ∨ k = 6 ∨ k = 7 ∨ k = 8 ∨ k = 9 by omega) with rfl | rfl | rfl | rfl | rfl | rfl | rfl | rfl | rfl | rfl
  all_goals
    go_enter Tryz.func73, Tryz.ntmps73
    go_wp2
    go_ret
    exact ⟨_, rfl, by decide, (Below.refl _ _).alloc (Nat.le_refl _) _⟩
set_option maxRecDepth 100000 in
set_option maxHeartbeats 2000000 in
theorem l6Leave_any (w : World) :
    Calls Tryz.prog 70 #[] w fun e w' => e = .returned (.tuple #[.agg #[.bool false, .bool false, .int .i64 0, .slice none 0 0, .slice none 0 0, .bool false, .bool true, .string ⟨#[]⟩], .agg #[.string ⟨#[66]⟩, .string ⟨#[]⟩]]) ∧ Below w.heap.size w w' := by
  go_enter Tryz.func70, Tryz.ntmps70
  go_wp2
  exact bodyPost_ret (v := .tuple #[.agg #[.bool false, .bool false, .int .i64 0, .slice none 0 0, .slice none 0 0, .bool false, .bool true, .string ⟨#[]⟩], .agg #[.string ⟨#[66]⟩, .string ⟨#[]⟩]]) (by simp [results, Tryz.results70, go_sem]) rfl ⟨rfl, ((Below.refl _ _).alloc (Nat.le_refl _) _).alloc (by simp) _⟩
set_option maxRecDepth 100000 in
set_option maxHeartbeats 2000000 in
theorem l4Wrong_any (on bad : Bool) (a : Int) (A : Option Addr) (n c : Nat) (w : World) :
    Calls Tryz.prog 69 #[.agg #[.bool on, .bool bad, .int .i64 a, .slice A n c]] w fun e w' => e = .returned (.agg #[.bool on, .bool on, .int .i64 a, .slice A n c]) ∧ Below w.heap.size w w' := by
  go_enter Tryz.func69, Tryz.ntmps69
  go_wp2
  exact bodyPost_ret (v := .agg #[.bool on, .bool on, .int .i64 a, .slice A n c]) (by simp [results, Tryz.results69, go_sem]) rfl ⟨rfl, ((Below.refl _ _).alloc (Nat.le_refl _) _).alloc (by simp) _⟩
set_option maxRecDepth 100000 in
set_option maxHeartbeats 2000000 in
theorem l6Ready_any (on bad : Bool) (a : Int) (Aw An : Option Addr) (nw cw nn cn : Nat) (skip gone : Bool) (inb : ByteArray) (w : World) :
    Calls Tryz.prog 63 #[.agg #[.bool on, .bool bad, .int .i64 a, .slice Aw nw cw, .slice An nn cn, .bool skip, .bool gone, .string inb]] w fun e w' => ∃ s : ByteArray, e = .returned (.agg #[.string ⟨#[90]⟩, .string s]) ∧ s.size = 1 ∧ Below w.heap.size w w' := by
  cases on <;> cases bad
  all_goals
    go_enter Tryz.func63, Tryz.ntmps63
    go_wp2
    exact bodyPost_ret (v := .agg #[.string ⟨#[90]⟩, .string _]) (by simp [results, Tryz.results63, go_sem]; rfl) rfl ⟨_, rfl, by rfl, ((Below.refl _ _).alloc (Nat.le_refl _) _).alloc (by simp) _⟩
set_option maxRecDepth 100000 in
set_option maxHeartbeats 2000000 in
theorem decN_any (n : Nat) (w : World) (hn : n ≤ 1000000) :
    Calls Tryz.prog 74 #[.int .i64 n] w fun e w' => ∃ s : ByteArray, e = .returned (.string s) ∧ s.size ≤ n + 1 ∧ Below w.heap.size w w' := by
  have g1 : decide ((n : Int) < -9223372036854775807) = false := by simp
  have g2 : decide ((n : Int) < 0) = false := by simp
  go_enter Tryz.func74, Tryz.ntmps74
  go_wp2
  go_loopw [0, 3] (fun a b wr => ∃ (m : Nat) (o : ByteArray), m ≤ n ∧ a = .int .i64 m ∧ b = .string o ∧ o.size + m ≤ n ∧ Below w.heap.size w wr) (fun a _ _ => (intOf a).toNat)
  case atStart => exact ⟨n, _, by omega, rfl, rfl, by show 0 + n ≤ n; omega, Below.refl _ _⟩
  case round =>
    obtain ⟨m, o, hm, rfl, rfl, hos, hb⟩ := hrel
    by_cases hp : 9 < m
    · have hcb := run_convert_bytes_back (P := Tryz.prog) (wr.alloc (.cells #[.int .u8 (48 + (m : Int) % 10)] 5)) 22 9 5 ⟨wr.heap.size, 0, none⟩ 1 [UInt8.ofNat (48 + m % 10)] Tryz.underlying22 Tryz.underlying5 Tryz.underlying9 (by
          intro j hj
          obtain rfl : j = 0 := by simp at hj; omega
          simp [Addr.add]; omega)
      simp only [List.length_cons, List.length_nil, Nat.zero_add] at hcb
      obtain ⟨d, hdd, hd1⟩ : ∃ d : ByteArray, d = ⟨[UInt8.ofNat (48 + m % 10)].toArray⟩ ∧ d.size = 1 := ⟨_, rfl, rfl⟩
      rw [← hdd] at hcb
      clear hdd
      have hb2 := hb.alloc hb.size (.cells #[.int .u8 (48 + (m : Int) % 10)] 5)
      go_wp2
      go_roundw
      case rel => exact ⟨m / 10, d ++ o, by omega, by go_num, rfl, by simp [hd1]; omega, hb2⟩
      case measure => simp [intOf]; omega
    · have hcb := run_convert_bytes_back (P := Tryz.prog) (wr.alloc (.cells #[.int .u8 (48 + (m : Int))] 5)) 22 9 5 ⟨wr.heap.size, 0, none⟩ 1 [UInt8.ofNat (48 + m)] Tryz.underlying22 Tryz.underlying5 Tryz.underlying9 (by
          intro j hj
          obtain rfl : j = 0 := by simp at hj; omega
          simp [Addr.add]; omega)
      simp only [List.length_cons, List.length_nil, Nat.zero_add] at hcb
      obtain ⟨d, hdd, hd1⟩ : ∃ d : ByteArray, d = ⟨[UInt8.ofNat (48 + m)].toArray⟩ ∧ d.size = 1 := ⟨_, rfl, rfl⟩
      rw [← hdd] at hcb
      clear hdd
      have h9 : decide (9 < (m : Int)) = false := by simp; omega
      have hb2 := hb.alloc hb.size (.cells #[.int .u8 (48 + (m : Int))] 5)
      go_wp2
      go_ret
      exact ⟨_, rfl, by simp [hd1]; omega, hb2⟩
set_option maxRecDepth 100000 in
set_option maxHeartbeats 2000000 in
theorem decZ_any (n : Int) (w : World) (h1 : -1000000 ≤ n) (h2 : n ≤ 1000000) :
    Calls Tryz.prog 74 #[.int .i64 n] w fun e w' => ∃ s : ByteArray, e = .returned (.string s) ∧ s.size ≤ 1000002 ∧ Below w.heap.size w w' := by
  by_cases hn : n < 0
  · obtain ⟨m, rfl⟩ : ∃ m : Nat, n = -(m : Int) := ⟨n.natAbs, by omega⟩
    have g1 : decide (-(m : Int) < -9223372036854775807) = false := by simp; omega
    have g2 : decide (-(m : Int) < 0) = true := by simp; omega
    have hmb : m ≤ 1000000 := by omega
    have q1 : decide ((9223372036854775807 : Int) < (m : Int)) = false := decide_eq_false (by omega)
    have q2 : 0 < m := by omega
    have q3 : decide (0 < m) = true := decide_eq_true q2
    have q4 : decide ((0 : Int) < (m : Int)) = true := decide_eq_true (by omega)
    have HC := Lib.hid (decN_any m w (by omega))
    have hwr : IntKind.i64.wrap (m : Int) = (m : Int) := IntWalk.i64_in _ (by omega)
    have hwr2 : IntKind.i64.wrap (-(-(m : Int))) = (m : Int) := by rw [Int.neg_neg]; exact hwr
    clear hn h1 h2
    go_enter Tryz.func74, Tryz.ntmps74
    go_wp2_with fail
    refine HC.out.mono ?_
    rintro e w1 ⟨s, rfl, hs, hb⟩
    have hs2 : s.size ≤ 1000001 := by omega
    go_wp2
    all_goals try (exfalso; omega)
    go_ret
    exact ⟨_, rfl, by rw [ByteArray.size_append]; show 1 + s.size ≤ _; omega, hb⟩
  · obtain ⟨m, rfl⟩ : ∃ m : Nat, n = (m : Int) := ⟨n.toNat, by omega⟩
    refine (decN_any m w (by omega)).mono ?_
    rintro e w1 ⟨s, rfl, hs, hb⟩
    exact ⟨s, rfl, by omega, hb⟩
end Go.Proofs.YtfmhhckkpenldaaGreatDoor
