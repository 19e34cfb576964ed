import Derived.Test.YtpjkcmmmpgncmaaM09
import Derived.LaidEql
import Derived.Stop.Asserts
import Derived.RowKitTokens
import Derived.RegionTactic
import Derived.ChangeAlike
import Derived.Test.YtpjkcmmmpgncmaaM05
/- The program's decoder: what feeding one byte does, and when a letter is complete. -/
namespace Go.Proofs.Ytpjkcmmmpgncmaa
open Go.RowKit
/-- does the byte c fit, 'seen' bytes having come and 'size' being what the digits told -/
def fitB (seen : Nat) (size c : Int) : Bool :=
  if seen = 0 then sgnB c else if seen = 1 then digB c && decide ((size + (c - 48)) * 10 ≤ 40) else if seen = 2 then digB c && decide (size + (c - 48) ≤ 40) else bodB c
/-- is the letter complete -/
def fullB (seen : Nat) (size : Int) : Bool := decide (3 ≤ seen ∧ (seen : Int) = 3 + size)
end Go.Proofs.Ytpjkcmmmpgncmaa
/- The program's LetterTake: measured, errors.Is at the one sentinel, the letter itself. -/
namespace Go.Proofs.Ytpjkcmmmpgncmaa
open Go.RowKit
open Go.Extern
/-- byte i of s, 0 behind its end -/
def byt (s : ByteArray) (i : Nat) : Int := ((s.data.getD i 0).toNat : Int)
theorem byt_lo (s : ByteArray) (i : Nat) : 0 ≤ byt s i := by unfold byt; omega
theorem byt_hi (s : ByteArray) (i : Nat) : byt s i ≤ 255 := by unfold byt; have := (s.data.getD i 0).toNat_lt; omega
theorem byt_eq (s : ByteArray) (i : Nat) (h : i < s.size) : ((s[i].toNat : Nat) : Int) = byt s i := by
  unfold byt; rw [Array.getD_eq_getD_getElem?, Array.getElem?_eq_getElem (by simpa using h)]; rfl
/-- what the digits have told when i bytes have come -/
def szAt (s : ByteArray) (i : Nat) : Int := if i < 2 then 0 else if i = 2 then (byt s 1 - 48) * 10 else (byt s 1 - 48) * 10 + (byt s 2 - 48)
def okAt (s : ByteArray) (i : Nat) : Bool := fitB i (szAt s i) (byt s i)
/-- measured, from byte i on -/
def measFrom (s : ByteArray) : Nat → Nat → Nat × Bool
  | 0, _ => (0, false)
  | f + 1, i => if okAt s i = false then (0, true) else if fullB (i + 1) (szAt s (i + 1)) = true then (i + 1, false) else measFrom s f (i + 1)
def meas (s : ByteArray) : Nat × Bool := measFrom s s.size 0
end Go.Proofs.Ytpjkcmmmpgncmaa
/- The program's LetterTake: what it returns, as a function of the bytes. -/
namespace Go.Proofs.Ytpjkcmmmpgncmaa
open Go.RowKit
abbrev bEmpty : ByteArray := ⟨#[]⟩
/-- the first letter of s, how many bytes it takes, the code -/
def takeN (s : ByteArray) : Nat := if (meas s).2 = true then 0 else (meas s).1
def takeC (s : ByteArray) : Nat := if (meas s).2 = true then 2 else if (meas s).1 = 0 then 1 else 0
def takeL (s : ByteArray) : Let := if takeC s = 0 then (s.extract 0 1, s.extract 3 (takeN s)) else (bEmpty, bEmpty)
theorem measFrom_bound (s : ByteArray) : ∀ f i, i + f ≤ s.size → (measFrom s f i).1 ≠ 0 → 3 ≤ (measFrom s f i).1 ∧ (measFrom s f i).1 ≤ s.size
  | 0, _, _, h => absurd rfl h
  | f + 1, i, hi, h => by
    unfold measFrom at h ⊢
    by_cases h1 : okAt s i = false
    · rw [if_pos h1] at h; exact absurd rfl h
    · rw [if_neg h1] at h ⊢
      by_cases h2 : fullB (i + 1) (szAt s (i + 1)) = true
      · rw [if_pos h2]
        unfold fullB at h2; simp at h2
        exact ⟨by simpa using h2.1, by simp; omega⟩
      · rw [if_neg h2] at h ⊢
        exact measFrom_bound s f (i + 1) (by omega) h
theorem meas_bound (s : ByteArray) (h : (meas s).1 ≠ 0) : 3 ≤ (meas s).1 ∧ (meas s).1 ≤ s.size := measFrom_bound s s.size 0 (by omega) h
def TakePost (s : ByteArray) (w : World) (e : Ending) (w' : World) : Prop :=
  e = .returned (.tuple #[.agg #[.string (takeL s).1, .string (takeL s).2], .int .i64 (takeN s), .int .i64 (takeC s)]) ∧ Below w.heap.size w w'
end Go.Proofs.Ytpjkcmmmpgncmaa
