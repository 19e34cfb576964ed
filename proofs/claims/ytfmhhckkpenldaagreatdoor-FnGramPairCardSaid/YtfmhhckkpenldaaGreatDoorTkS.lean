import Derived.Test.YtfmhhckkpenldaaGreatDoorRows
import Derived.Test.YtfmhhckkpenldaaGreatDoorM13
import Derived.Test.YtfmhhckkpenldaaGreatDoorVerC
import Derived.Test.YtfmhhckkpenldaaGreatDoorM19
import Derived.Test.YtfmhhckkpenldaaGreatDoorClone
/- Those who talk: how they lie in memory; their size. -/
namespace Go.Proofs.YtfmhhckkpenldaaGreatDoor
open Go.RowKit
abbrev Nrow : Type := Option Addr × Nat × List Nm
structure Tk where
  on : Bool
  bad : Bool
  at_ : Int
  ws : Wrow
  ns : Nrow
  skip : Bool
  gone : Bool
  inb : ByteArray
def encTk (t : Tk) : List Value := [.bool t.on, .bool t.bad, .int .i64 t.at_, .slice t.ws.1 t.ws.2.2.length t.ws.2.1, .slice t.ns.1 t.ns.2.2.length t.ns.2.1, .bool t.skip, .bool t.gone, .string t.inb]
def SlT (w : World) (A : Option Addr) (ts : List Tk) : Prop := Sl encTk 8 w A ts ∧ ∀ t ∈ ts, Sl encWri 3 w t.ws.1 t.ws.2.2 ∧ Sl encNm 5 w t.ns.1 t.ns.2.2
theorem SlT.below {w w' : World} {A : Option Addr} {ts : List Tk} (h : SlT w A ts) (hb : Below w.heap.size w w') : SlT w' A ts := ⟨h.1.below hb, fun t ht => ⟨(h.2 t ht).1.below hb, (h.2 t ht).2.below hb⟩⟩
end Go.Proofs.YtfmhhckkpenldaaGreatDoor
