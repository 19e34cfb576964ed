import Derived.Test.YtpjkcmmmpgncmaaM32
import Derived.Test.YtpjkcmmmpgncmaaM15
/- Drawing a letter. -/
namespace Go.Proofs.Ytpjkcmmmpgncmaa
open Go.RowKit
theorem grown_trans {w w1 w2 : World} {r : Option Nat} (h : w.grownBy w1 r) (h2 : w1.grownBy w2 r) : w.grownBy w2 r :=
  ⟨h2.os.trans h.os, h2.tape.trans h.tape, h2.output.trans h.output, Nat.le_trans h.size h2.size, fun k hk hne => (h2.block k (Nat.lt_of_lt_of_le hk h.size) hne).trans (h.block k hk hne)⟩
theorem grown_below {w w1 : World} {r : Option Nat} (h : Below w.heap.size w w1) : w.grownBy w1 r := ⟨h.os, h.tape, h.output, h.size, fun k hk _ => h.block k hk⟩
theorem grown_alloc {w w1 : World} {r : Option Nat} (h : w.grownBy w1 r) (o : Obj) : w.grownBy (w1.alloc o) r := grown_trans h (grown_below ((Below.refl _ _).alloc (Nat.le_refl _) o))
theorem Rd.far {w0 w : World} {A : Option Addr} {bs : List UInt8} {c g q : Nat} (h : Rd w0 w A bs c g q) {p : Addr} (hp : g ≠ p.block) (hp0 : w0.heap.size ≤ p.block) (u : Value) : Rd w0 (w.setCell p u) A bs c g q :=
  ⟨h.1.far hp u, h.2.1.setCell hp0 u, h.2.2⟩
theorem Sl.lit (w : World) (t : TypeId) (l : List ByteArray) (cs : Array Value) (h : cs.toList = l.map Value.string) : Sl (fun x => [.string x]) 1 (w.alloc (.cells cs t)) (some ⟨w.heap.size, 0, none⟩) l := by
  intro hl
  refine ⟨w.heap.size, 0, rfl, by simp, fun i j x hx hj => ?_⟩
  obtain rfl : j = 0 := by omega
  have h0 := (Blk.new w t cs).cell i
  simp only [Nat.mul_one, Nat.add_zero, Nat.zero_add]
  rw [h0, ← Array.getElem?_toList, h, List.getElem?_map, hx]; rfl
end Go.Proofs.Ytpjkcmmmpgncmaa
