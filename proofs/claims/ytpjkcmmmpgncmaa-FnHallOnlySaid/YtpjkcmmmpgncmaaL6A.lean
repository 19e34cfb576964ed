import Derived.Test.YtpjkcmmmpgncmaaL6L
import Derived.Test.YtpjkcmmmpgncmaaM02
/- The reference's l6All: letters are answered, one behind the other (bounds). -/
namespace Go.Proofs.Ytpjkcmmmpgncmaa
open Go.RowKit
/-- letters, not too many -/
def LN (W : World) (A : Option Addr) (L : List Let) (n : Nat) : Prop := SlK encLet 2 94 W A L ∧ AllL L ∧ L.length ≤ n
theorem LN.c {A : Option Addr} {L : List Let} {n : Nat} : KpC (fun W => LN W A L n) := fun _ _ hk h => ⟨h.1.kp hk (by decide), h.2⟩
theorem OwnL.c {B : Nat} {v : Value} {L : List Let} : KpC (fun W => OwnL W B v L) := fun _ _ hk h => own_kp h hk (by decide)
theorem LN.of {W : World} {B c n : Nat} {A : Option Addr} {L : List Let} (h : OwnL W B (.slice A L.length c) L) (hf : AllL L) (hl : L.length ≤ n) : LN W A L n := ⟨SlK.of_own encLet_len h, hf, hl⟩
theorem ownL_appL {w : World} {B : Nat} {v : Value} {L M : List Let} (ho : w.ownsRow B 94 2 v (L.length + M.length) (L.flatMap encLet ++ M.flatMap encLet)) : OwnL w B v (L ++ M) := by
  unfold OwnL
  rw [List.length_append, List.flatMap_append]
  exact ho
theorem ownL_nil (W : World) (a B : Nat) (ha : a = W.heap.size) (hB : B ≤ W.heap.size) : OwnL (W.alloc (.cells #[] 94)) B (.slice (some ⟨a, 0, none⟩) ([] : List Let).length 0) [] := by
  subst ha
  exact OwnL.leB (own_of_blk (base := W.heap.size) (n := 0) (k := 2) (xs := []) (Blk.new W _ #[]) (Nat.le_refl _) (Nat.zero_le _) rfl rfl) hB
end Go.Proofs.Ytpjkcmmmpgncmaa
