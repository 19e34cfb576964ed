import Derived.BigQuiet
import Derived.Test.YtpjkcmmmpgncmaaM02
import Derived.Test.YtpjkcmmmpgncmaaLtrM
/- The reference's l9Letter: a letter that one may be told is drawn. -/
namespace Go.Proofs.Ytpjkcmmmpgncmaa
open Go.RowKit
/-- a letter was drawn -/
def LetD (u0 w : World) (RA : Option Addr) (rb : List UInt8) (rc g p n : Nat) (e : Ending) (w' : World) : Prop :=
  ∃ (x : Let) (q : Nat), e = .returned (.agg #[.string x.1, .string x.2]) ∧ LetS x ∧ q ≤ p + n ∧ Rd u0 w' RA rb rc g q ∧ w.grownBy w' (some g)
theorem one_le (n : UInt8) : (⟨#[n]⟩ : ByteArray).size ≤ 1040000 := Nat.le_of_lt (by show 1 < 1040000; decide)
end Go.Proofs.Ytpjkcmmmpgncmaa
