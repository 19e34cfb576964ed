/- markText: the letter m and the decimal digits. -/
import Derived.Test.YtbhocdmfmnlniaaDoorRows
import Derived.Test.YtbhocdmfmnlniaaDoorLibB
import Derived.Laws.IdiomStrings
import Derived.Laws.BytesString
namespace Go.Proofs.YtbhocdmfmnlniaaDoor
open Go.RowKit
def dg (k : Nat) : ByteArray := ⟨#[UInt8.ofNat (48 + k % 10)]⟩
def digs (k : Nat) (out : ByteArray) : ByteArray := if _h : k = 0 then out else digs (k / 10) (dg k ++ out)
termination_by k
decreasing_by omega
theorem digs_zero (out : ByteArray) : digs 0 out = out := by rw [digs]; simp
theorem digs_step {k : Nat} (h : 0 < k) (out : ByteArray) : digs k out = digs (k / 10) (dg k ++ out) := by rw [digs, dif_neg (by omega)]
def mt (k : Nat) : ByteArray := if k = 0 then ⟨#[109, 48]⟩ else ⟨#[109]⟩ ++ digs k ⟨#[]⟩
end Go.Proofs.YtbhocdmfmnlniaaDoor
