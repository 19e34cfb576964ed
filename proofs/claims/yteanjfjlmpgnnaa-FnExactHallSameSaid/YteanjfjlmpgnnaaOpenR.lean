/- Arguments that are rows of writes, and rows of such rows. -/
import Derived.Test.YteanjfjlmpgnnaaRows
import Derived.Test.YteanjfjlmpgnnaaWriD
import Derived.OpenShut
import Derived.ShutString
import Derived.ChangeOld
namespace Go.Proofs.Yteanjfjlmpgnnaa
open Go.RowKit Go.ChangeShapes Go.WideShapes Go.ChangeAt Go.Deep
theorem open_writes_at {H : Type} {enc : TypeId × Value → H} {w : World} {base2 : Nat} {spare : Nat → Bool} {held : Bool} {fuel : Nat} {cs : List Value} {x : DataW H × List MemPlace}
    (hf : DataW.trod enc Try.prog w base2 spare held fuel 125 cs = some x) :
    ∃ A l c, cs = [.slice A (l : List Wri).length c] ∧ FitsW l ∧ Sl encWri 3 w A l := by
  rcases open_slice_fields Try.underlying125 Try.underlying255 (by kernel_rfl) (by kernel_rfl) hf with ⟨hcs, hx⟩ | ⟨a, len', cap', m, D, Pl, hcs, hb, hl, hm, hmm, hx, hi⟩
  · exact ⟨none, [], 0, hcs, ⟨by simp, by simp⟩, Sl.nil _ _ _ _⟩
  · have hlm : len' ≤ m := by rw [hmm]; split <;> omega
    obtain ⟨l, hll, hg, hS⟩ := Sl.of_cells (enc := encWri) (k := 3) (n := len') (w := w) (a := a) (Good := fun x : Wri => x.1.size ≤ maxLen) (by omega) encWri_len (fun i hil => by
      obtain ⟨ys, n, _, _, _, hf⟩ := hi i (by omega)
      obtain ⟨v0, y0, hc0, _, ht0⟩ := hf 0 _ rfl
      obtain ⟨v1, y1, hc1, _, ht1⟩ := hf 1 _ rfl
      obtain ⟨v2, y2, hc2, _, ht2⟩ := hf 2 _ rfl
      obtain ⟨s0, e0, _, hs0⟩ := DataW.trod_string Try.underlying9 ht0
      obtain ⟨n1, e1, _⟩ := DataW.trod_int Try.underlying3 ht1
      obtain ⟨b2, e2, _⟩ := DataW.trod_bool Try.underlying4 ht2
      simp at e0 e1 e2
      subst e0 e1 e2
      exact ⟨(s0, n1, b2), hs0, fun j hj => by
        match j, hj with
        | 0, _ => exact hc0
        | 1, _ => exact hc1
        | 2, _ => exact hc2⟩)
    subst hll
    exact ⟨some a, l, cap', hcs, ⟨by omega, hg⟩, hS⟩
set_option maxRecDepth 100000 in
theorem open_writes {H : Type} {enc : TypeId × Value → H} {w : World} {base base2 : Nat} {spare : Nat → Bool} {held : Bool} {v : Value} {d : DataW H} {p : List MemPlace}
    (hval : Value.okWide Try.prog w .any base 125 v) (h : DataW.Trod enc Try.prog w base2 spare held 125 v d p) :
    ∃ A l c, v = .slice A (l : List Wri).length c ∧ FitsW l ∧ Sl encWri 3 w A l := by
  obtain ⟨fuel, hf⟩ := h
  obtain ⟨a0, len, cap, rfl⟩ := okWide_slice Try.underlying125 hval
  obtain ⟨A, l, c, hcs, hF, hS⟩ := open_writes_at hf
  simp [Value.cells] at hcs
  obtain ⟨rfl, rfl, rfl⟩ := hcs
  exact ⟨_, l, _, rfl, hF, hS⟩
end Go.Proofs.Yteanjfjlmpgnnaa
