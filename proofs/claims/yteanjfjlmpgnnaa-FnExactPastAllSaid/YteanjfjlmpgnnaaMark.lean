/- markText: the letter m and the decimal digits. -/
import Derived.Test.YteanjfjlmpgnnaaRows
import Derived.Test.YteanjfjlmpgnnaaLibB
import Derived.Laws.IdiomStrings
import Derived.Laws.BytesString
namespace Go.Proofs.Yteanjfjlmpgnnaa
open Go.RowKit
def dg (k : Nat) : ByteArray := ⟨#[UInt8.ofNat (48 + k % 10)]⟩
def digs (k : Nat) (out : ByteArray) : ByteArray := if _h : k = 0 then out else digs (k / 10) (dg k ++ out)
termination_by k
decreasing_by omega
theorem digs_zero (out : ByteArray) : digs 0 out = out := by rw [digs]; simp
theorem digs_step {k : Nat} (h : 0 < k) (out : ByteArray) : digs k out = digs (k / 10) (dg k ++ out) := by rw [digs, dif_neg (by omega)]
def mt (k : Nat) : ByteArray := if k = 0 then ⟨#[109, 48]⟩ else ⟨#[109]⟩ ++ digs k ⟨#[]⟩
set_option maxRecDepth 100000 in
set_option maxHeartbeats 400000 in
theorem markText_any (k : Nat) (w : World) (hk : k < 4611686018427387904) :
    Calls Try.prog 131 #[.int .i64 k] w fun e w' => e = .returned (.string (mt k)) ∧ Below w.heap.size w w' := by
  by_cases h0 : k = 0
  · subst h0
    go_enter Try.func131, Try.ntmps131
    go_wp2
    go_ret
    exact ⟨rfl, Below.refl _ _⟩
  · have HM := Lib.hid (show mt k = ⟨#[109]⟩ ++ digs k ⟨#[]⟩ by unfold mt; rw [if_neg h0])
    have hd : decide ((k : Int) ≤ 0) = false := by simp; omega
    go_enter Try.func131, Try.ntmps131
    go_wp2
    go_loopw [0, 3] (fun a b wr => ∃ (m : Nat) (o : ByteArray), m ≤ k ∧ a = .int .i64 m ∧ b = .string o ∧ o.size + m ≤ k ∧ digs m o = digs k ⟨#[]⟩ ∧ Below w.heap.size w wr) (fun a _ _ => (intOf a).toNat)
    case atStart => exact ⟨k, _, by omega, rfl, rfl, by show 0 + k ≤ k; omega, rfl, Below.refl _ _⟩
    case round =>
      obtain ⟨m, o, hm, rfl, rfl, hos, hd, hb⟩ := hrel
      have HD := Lib.hid hd
      clear hd
      by_cases hp : 0 < m
      · have HS := Lib.hid (digs_step hp o)
        have hcb := run_convert_bytes_back (P := Try.prog) (wr.alloc (.cells #[.int .u8 (48 + (m : Int) % 10)] 5)) 38 9 5 ⟨wr.heap.size, 0, none⟩ 1 [UInt8.ofNat (48 + m % 10)] Try.underlying38 Try.underlying5 Try.underlying9 (by
          intro j hj
          obtain rfl : j = 0 := by simp at hj; omega
          simp [Addr.add]; omega)
        simp only [List.length_cons, List.length_nil, Nat.zero_add] at hcb
        obtain ⟨d, hdd, hd1⟩ : ∃ d : ByteArray, d = ⟨[UInt8.ofNat (48 + m % 10)].toArray⟩ ∧ d.size = 1 := ⟨_, rfl, rfl⟩
        rw [← hdd] at hcb
        have HDD := Lib.hid hdd
        clear hdd
        have hb2 := hb.alloc hb.size (.cells #[.int .u8 (48 + (m : Int) % 10)] 5)
        go_wp2
        go_roundw
        case rel => exact ⟨m / 10, d ++ o, by omega, by go_num, rfl, by simp [hd1]; omega, by rw [← HD.out, HS.out, HDD.out]; rfl, hb2⟩
        case measure => simp [intOf]; omega
      · obtain rfl : m = 0 := by omega
        go_wp2
        go_ret
        exact ⟨ret_str <| by rw [HM.out, ← HD.out, digs_zero], hb⟩
end Go.Proofs.Yteanjfjlmpgnnaa
