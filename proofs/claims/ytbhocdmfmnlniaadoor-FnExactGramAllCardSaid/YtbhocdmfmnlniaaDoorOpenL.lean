/- Arguments that are a letter, or a list of letters. -/
import Derived.Test.YtbhocdmfmnlniaaDoorRows
import Derived.Test.YtbhocdmfmnlniaaDoorLetD
import Derived.OpenShut
import Derived.ShutString
import Derived.ChangeOld
namespace Go.Proofs.YtbhocdmfmnlniaaDoor
open Go.RowKit Go.ChangeShapes Go.WideShapes Go.ChangeAt Go.Deep
set_option maxRecDepth 100000 in
theorem open_letter {H : Type} {enc : TypeId × Value → H} {w : World} {base base2 : Nat} {spare : Nat → Bool} {held : Bool} {v : Value} {d : DataW H} {p : List MemPlace}
    (hval : Value.okWide Tryd.prog w .any base 23 v) (h : DataW.Trod enc Tryd.prog w base2 spare held 23 v d p) :
    ∃ x : Let, v = .agg #[.string x.1, .string x.2] ∧ x.1.size ≤ maxLen ∧ x.2.size ≤ maxLen := by
  obtain ⟨cs, rfl, hsz⟩ := okWide_struct Tryd.underlying23 hval
  have hc : cs.size = 2 := hsz.trans (by kernel_rfl)
  have hC : Tryd.prog.cellsOf 9 = 1 := by kernel_rfl
  obtain ⟨fuel, hf⟩ := h
  obtain ⟨y0, y1, n, _, hl, h0, h1⟩ := trod_struct2 Tryd.underlying23 hf
  obtain ⟨a, b, rfl⟩ : ∃ a b, cs = #[a, b] := by
    obtain ⟨l⟩ := cs
    match l, hc with
    | [a, b], _ => exact ⟨a, b, rfl⟩
  obtain ⟨s0, e0, _, hs0⟩ := DataW.trod_string Tryd.underlying9 h0
  obtain ⟨s1, e1, _, hs1⟩ := DataW.trod_string Tryd.underlying9 h1
  simp [Value.cells, hC] at e0 e1
  subst e0 e1
  exact ⟨(s0, s1), rfl, hs0, hs1⟩
set_option maxRecDepth 100000 in
theorem open_letters {H : Type} {enc : TypeId × Value → H} {w : World} {base base2 : Nat} {spare : Nat → Bool} {held : Bool} {v : Value} {d : DataW H} {p : List MemPlace}
    (hval : Value.okWide Tryd.prog w .any base 29 v) (h : DataW.Trod enc Tryd.prog w base2 spare held 29 v d p) :
    ∃ A l c, v = .slice A (l : List Let).length c ∧ FitsL l ∧ Sl encLet 2 w A l := by
  obtain ⟨fuel, hf⟩ := h
  obtain ⟨a0, len, cap, rfl⟩ := okWide_slice Tryd.underlying29 hval
  rcases open_slice_fields Tryd.underlying29 Tryd.underlying23 (by kernel_rfl) (by kernel_rfl) hf with ⟨hcs, hx⟩ | ⟨a, len', cap', m, D, Pl, hcs, hb, hl, hm, hmm, hx, hi⟩
  · simp [Value.cells] at hcs
    obtain ⟨rfl, rfl, rfl⟩ := hcs
    exact ⟨none, [], 0, rfl, ⟨by simp, by simp⟩, Sl.nil _ _ _ _⟩
  · simp [Value.cells] at hcs
    obtain ⟨rfl, rfl, rfl⟩ := hcs
    have hlm : len ≤ m := by rw [hmm]; split <;> omega
    obtain ⟨l, hll, hg, hS⟩ := Sl.of_cells (enc := encLet) (k := 2) (n := len) (w := w) (a := a) (Good := fun x : Let => x.1.size ≤ maxLen ∧ x.2.size ≤ maxLen) (by omega) encLet_len (fun i hil => by
      obtain ⟨ys, n, _, _, _, hf⟩ := hi i (by omega)
      obtain ⟨v0, y0, hc0, _, ht0⟩ := hf 0 _ rfl
      obtain ⟨v1, y1, hc1, _, ht1⟩ := hf 1 _ rfl
      obtain ⟨s0, e0, _, hs0⟩ := DataW.trod_string Tryd.underlying9 ht0
      obtain ⟨s1, e1, _, hs1⟩ := DataW.trod_string Tryd.underlying9 ht1
      simp at e0 e1
      subst e0 e1
      exact ⟨(s0, s1), ⟨hs0, hs1⟩, fun j hj => by
        match j, hj with
        | 0, _ => exact hc0
        | 1, _ => exact hc1⟩)
    subst hll
    exact ⟨some a, l, cap, rfl, ⟨by omega, hg⟩, hS⟩
end Go.Proofs.YtbhocdmfmnlniaaDoor
