import Derived.Test.YtpjkcmmmpgncmaaRows
import Derived.Test.YtpjkcmmmpgncmaaM05
import Derived.Test.YtpjkcmmmpgncmaaM01
import Derived.Lib.ItoaNum
import Derived.Lib.AtoiTie
import Derived.Lib.ParseIntBTie
import Derived.Lib.AtoiBound
import Derived.Laws.IdiomStrings
import Derived.Laws.BytesString
import Derived.Test.YtpjkcmmmpgncmaaM07
/- The laws' helpers on rows of writes: their size, their copies. -/
namespace Go.Proofs.Ytpjkcmmmpgncmaa
open Go.RowKit
theorem infoWri : (Try.prog.info? 46).map (fun i => (i.zero, i.size, i.bytes)) = some (some (.agg #[.string ⟨#[]⟩, .int .i64 0, .bool false]), 3, 32) := by kernel_rfl
end Go.Proofs.Ytpjkcmmmpgncmaa
/- Those who talk: what they hold, plain; how it lies in memory; their size. -/
namespace Go.Proofs.Ytpjkcmmmpgncmaa
open Go.RowKit
section
variable {α : Type} {enc : α → List Value} {k : Nat} {w w' : World} {A : Option Addr} {l : List α}
theorem Sl.at5 {f g p q r : α → Value} (h : Sl (fun x => [f x, g x, p x, q x, r x]) 5 w A l) {i : Nat} (hi : i < l.length) :
    ∃ b o, A = some ⟨b, o, none⟩ ∧ b < w.heap.size ∧ w.cell? ⟨b, o + i * 5, none⟩ = some (f l[i]) ∧ w.cell? ⟨b, o + i * 5 + 1, none⟩ = some (g l[i]) ∧ w.cell? ⟨b, o + i * 5 + 2, none⟩ = some (p l[i]) ∧
      w.cell? ⟨b, o + i * 5 + 3, none⟩ = some (q l[i]) ∧ w.cell? ⟨b, o + i * 5 + 4, none⟩ = some (r l[i]) := by
  obtain ⟨b, o, rfl, hB, hc⟩ := h (by omega)
  exact ⟨b, o, rfl, hB, hc i 0 _ (List.getElem?_eq_getElem hi) (by omega), hc i 1 _ (List.getElem?_eq_getElem hi) (by omega), hc i 2 _ (List.getElem?_eq_getElem hi) (by omega), hc i 3 _ (List.getElem?_eq_getElem hi) (by omega), hc i 4 _ (List.getElem?_eq_getElem hi) (by omega)⟩
end
/-- what one may ask: its kind, its keys, its number -/
abbrev AskV : Type := Int × ByteArray × ByteArray × Int
/-- what one may ask by a name -/
abbrev Nm : Type := ByteArray × AskV
def encNm (x : Nm) : List Value := [.string x.1, .int .i64 x.2.1, .string x.2.2.1, .string x.2.2.2.1, .int .i64 x.2.2.2.2]
theorem encNm_len (x : Nm) : (encNm x).length = 5 := rfl
end Go.Proofs.Ytpjkcmmmpgncmaa
/- Plain words: numerals of at most 17 digits in their one form: that the library's reader and writer agree on a text is that it is such a numeral. -/
namespace Go.Proofs.Ytpjkcmmmpgncmaa
open Go.RowKit
def digL (l : List UInt8) : Bool := l.all (fun c => decide (48 ≤ c.toNat ∧ c.toNat ≤ 57))
def magOk (neg : Bool) (l : List UInt8) : Bool := decide (l ≠ []) && decide (l.length ≤ 17) && !((l.head? == some 48) && (decide (1 < l.length) || neg)) && digL l
def negL (l : List UInt8) : Bool := l.head? == some 45
def numL (l : List UInt8) : Bool := if negL l then magOk true l.tail else magOk false l
theorem magOk_iff {neg : Bool} {l : List UInt8} : magOk neg l = true ↔ l ≠ [] ∧ l.length ≤ 17 ∧ (l.head? = some 48 → l.length ≤ 1 ∧ neg = false) ∧ digL l = true := by
  unfold magOk
  by_cases h : l.head? = some 48
  · have hb : (l.head? == some 48) = true := by simp [h]
    rw [hb]; cases neg <;> simp [h, and_assoc]
  · have hb : (l.head? == some 48) = false := by simpa using h
    rw [hb]; simp [h, and_assoc]
theorem negL_iff {l : List UInt8} : negL l = true ↔ ∃ r, l = 45 :: r := by
  unfold negL
  cases l with
  | nil => simp
  | cons a r => simp
end Go.Proofs.Ytpjkcmmmpgncmaa
/- The reference's LetterOk and LetterText, and the small texts they are made of. -/
namespace Go.Proofs.Ytpjkcmmmpgncmaa
open Go.RowKit
/-- one digit -/
def d1 (n : Nat) : ByteArray := ⟨#[UInt8.ofNat (48 + n)]⟩
theorem d1_size (n : Nat) : (d1 n).size = 1 := rfl
set_option maxRecDepth 100000 in
set_option maxHeartbeats 400000 in
theorem dec_any (n : Nat) (w : World) (hn : n ≤ 9) :
    Calls Try.prog 192 #[.int .i64 n] w fun e w' => e = .returned (.string (d1 n)) ∧ Below w.heap.size w w' := by
  have hcb := run_convert_bytes_back (P := Try.prog) (w.alloc (.cells #[.int .u8 (48 + (n : Int))] 5)) 38 9 5 ⟨w.heap.size, 0, none⟩ 1 [UInt8.ofNat (48 + n)] Try.underlying38 Try.underlying5 Try.underlying9 (by
    intro j hj
    obtain rfl : j = 0 := by simp at hj; omega
    simp [Addr.add]; omega)
  simp only [List.length_cons, List.length_nil, Nat.zero_add] at hcb
  obtain ⟨d, hdd, hd1⟩ : ∃ d : ByteArray, d = ⟨[UInt8.ofNat (48 + n)].toArray⟩ ∧ d.size = 1 := ⟨_, rfl, rfl⟩
  have HD := Lib.hid (show d1 n = d from hdd.symm)
  rw [← hdd] at hcb
  clear hdd
  have hb := (Below.refl w.heap.size w).alloc (Nat.le_refl _) (.cells #[.int .u8 (48 + (n : Int))] 5)
  have g1 : decide ((n : Int) < -9223372036854775807) = false := by simp
  have g2 : decide ((n : Int) < 0) = false := by simp
  go_enter Try.func192, Try.ntmps192
  go_wp2
  go_loopw [0, 3] (fun a b wr => a = .int .i64 n ∧ b = .string bEmpty ∧ wr = w) (fun _ _ _ => 0)
  case atStart => exact ⟨rfl, rfl, rfl⟩
  case round =>
    obtain ⟨rfl, rfl, rfl⟩ := hrel
    have h9 : decide (9 < (n : Int)) = false := by simp; omega
    have he : bEmpty.size = 0 := rfl
    go_wp2
    go_ret
    exact ⟨ret_str (by rw [HD.out]; exact ByteArray.append_empty), hb⟩
/-- a number below 100 in two digits -/
def twoD (n : Nat) : ByteArray := d1 (n / 10) ++ d1 (n % 10)
theorem twoD_size (n : Nat) : (twoD n).size = 2 := by unfold twoD; simp [d1_size]
set_option maxHeartbeats 400000 in
theorem two_any (n : Nat) (w : World) (hn : n ≤ 99) :
    Calls Try.prog 193 #[.int .i64 n] w fun e w' => e = .returned (.string (twoD n)) ∧ Below w.heap.size w w' := by
  go_enter Try.func193, Try.ntmps193
  go_wp2_with fail
  refine (dec_any (n / 10) w (by omega)).mono ?_
  rintro e w1 ⟨rfl, hb1⟩
  have s1 := d1_size (n / 10)
  have HT := Lib.hid (show twoD n = d1 (n / 10) ++ d1 (n % 10) from rfl)
  generalize d1 (n / 10) = a at *
  go_wp2_with fail
  refine (dec_any (n % 10) w1 (by omega)).mono ?_
  rintro e w2 ⟨rfl, hb2⟩
  have s2 := d1_size (n % 10)
  generalize d1 (n % 10) = b at *
  have hb := bthen hb1 hb2
  go_wp2
  go_ret
  exact ⟨ret_str HT.out.symm, hb⟩
end Go.Proofs.Ytpjkcmmmpgncmaa
