/- Arguments that are stores. -/
import Derived.Test.YteanjfjlmpgnnaaOpenR
import Derived.Test.YteanjfjlmpgnnaaVerC
namespace Go.Proofs.Yteanjfjlmpgnnaa
open Go.RowKit Go.ChangeShapes Go.WideShapes Go.ChangeAt Go.Deep
theorem open_versL_at {H : Type} {enc : TypeId × Value → H} {w : World} {base2 : Nat} {spare : Nat → Bool} {held : Bool} {fuel : Nat} {cs : List Value} {x : DataW H × List MemPlace}
    (hf : DataW.trod enc Try.prog w base2 spare held fuel 22 cs = some x) :
    ∃ A l c, cs = [.slice A (l : List Ver).length c] ∧ FitsV l ∧ Sl encVer 4 w A l := by
  rcases open_slice_fields Try.underlying22 Try.underlying181 (by kernel_rfl) (by kernel_rfl) hf with ⟨hcs, hx⟩ | ⟨a, len', cap', m, D, Pl, hcs, hb, hl, hm, hmm, hx, hi⟩
  · exact ⟨none, [], 0, hcs, ⟨by simp, by simp⟩, Sl.nil _ _ _ _⟩
  · have hlm : len' ≤ m := by rw [hmm]; split <;> omega
    obtain ⟨l, hll, hg, hS⟩ := Sl.of_cells (enc := encVer) (k := 4) (n := len') (w := w) (a := a) (Good := fun x : Ver => x.1.size ≤ maxLen) (by omega) encVer_len (fun i hil => by
      obtain ⟨ys, n, _, _, _, hf⟩ := hi i (by omega)
      obtain ⟨v0, y0, hc0, _, ht0⟩ := hf 0 _ rfl
      obtain ⟨v1, y1, hc1, _, ht1⟩ := hf 1 _ rfl
      obtain ⟨v2, y2, hc2, _, ht2⟩ := hf 2 _ rfl
      obtain ⟨v3, y3, hc3, _, ht3⟩ := hf 3 _ rfl
      obtain ⟨s0, e0, _, hs0⟩ := DataW.trod_string Try.underlying9 ht0
      obtain ⟨n1, e1, _⟩ := DataW.trod_int Try.underlying3 ht1
      obtain ⟨n2, e2, _⟩ := DataW.trod_int Try.underlying3 ht2
      obtain ⟨n3, e3, _⟩ := DataW.trod_int Try.underlying3 ht3
      simp at e0 e1 e2 e3
      subst e0 e1 e2 e3
      exact ⟨(s0, n1, n2, n3), hs0, fun j hj => by
        match j, hj with
        | 0, _ => exact hc0
        | 1, _ => exact hc1
        | 2, _ => exact hc2
        | 3, _ => exact hc3⟩)
    subst hll
    exact ⟨some a, l, cap', hcs, ⟨by omega, hg⟩, hS⟩
set_option maxRecDepth 100000 in
theorem open_vers {H : Type} {enc : TypeId × Value → H} {w : World} {base base2 : Nat} {spare : Nat → Bool} {held : Bool} {v : Value} {d : DataW H} {p : List MemPlace}
    (hval : Value.okWide Try.prog w .any base 24 v) (h : DataW.Trod enc Try.prog w base2 spare held 24 v d p) :
    ∃ now A l c, v = .agg #[.int .i64 now, .slice A (l : List Ver).length c] ∧ FitsV l ∧ Sl encVer 4 w A l := by
  obtain ⟨cs, rfl, hsz⟩ := okWide_struct Try.underlying24 hval
  have hc : cs.size = 2 := hsz.trans (by kernel_rfl)
  have hC : Try.prog.cellsOf 3 = 1 := by kernel_rfl
  have hC2 : Try.prog.cellsOf 22 = 1 := by kernel_rfl
  obtain ⟨fuel, hf⟩ := h
  obtain ⟨y0, y1, n, _, hl, h0, h1⟩ := trod_struct2 Try.underlying24 hf
  obtain ⟨a, b, rfl⟩ : ∃ a b, cs = #[a, b] := by
    obtain ⟨l⟩ := cs
    match l, hc with
    | [a, b], _ => exact ⟨a, b, rfl⟩
  obtain ⟨n0, e0, _⟩ := DataW.trod_int Try.underlying3 h0
  obtain ⟨A, l, c, e1, hF, hS⟩ := open_versL_at h1
  simp [Value.cells, hC, hC2] at e0 e1
  subst e0 e1
  exact ⟨n0, A, l, c, rfl, hF, hS⟩
end Go.Proofs.Yteanjfjlmpgnnaa
