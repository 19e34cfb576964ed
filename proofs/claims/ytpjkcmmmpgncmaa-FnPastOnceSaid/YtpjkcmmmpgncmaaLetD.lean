/- What a letter is, as data. -/
import Derived.Test.YtpjkcmmmpgncmaaLib
namespace Go.Proofs.Ytpjkcmmmpgncmaa
open Go.RowKit
abbrev Let : Type := ByteArray × ByteArray
def encLet (x : Let) : List Value := [.string x.1, .string x.2]
theorem encLet_len (x : Let) : (encLet x).length = 2 := rfl
def FitsL (l : List Let) : Prop := l.length ≤ maxLen ∧ ∀ x ∈ l, x.1.size ≤ maxLen ∧ x.2.size ≤ maxLen
def sz (tot : Nat) (left : Int) : Int := if (tot : Int) ≤ left then left - tot else -1
theorem sz_neg {t : Nat} {a : Int} (h : sz t a < 0) : a < t := by unfold sz at h; split at h <;> omega
theorem sz_pos {t : Nat} {a : Int} (h : 0 ≤ sz t a) : (t : Int) ≤ a := by unfold sz at h; split at h <;> omega
theorem sz_no {t : Nat} {a : Int} (h : a < t) : sz t a = -1 := by unfold sz; rw [if_neg (by omega)]
theorem sz_yes {t : Nat} {a : Int} (h : (t : Int) ≤ a) : sz t a = a - t := by unfold sz; rw [if_pos h]
theorem list_ne_at {α : Type} {l l2 : List α} {k : Nat} (h : k < l.length) (h2 : k < l2.length) (hne : l[k] ≠ l2[k]) : l ≠ l2 := by
  rintro rfl; exact hne rfl
end Go.Proofs.Ytpjkcmmmpgncmaa
